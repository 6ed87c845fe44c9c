/- digest: MD5. -/
import Derived.Test.YtcgopnknnolhkaaDgF
import Derived.Deep.MidRow
set_option linter.unusedVariables false
set_option linter.unusedSimpArgs false
namespace Go.Proofs.Ytcgopnknnolhkaa.Dg
open Go.RowKit U
def Z64 : Array Value := (List.replicate 64 (.int .u32 0)).toArray
theorem alloc64 (w : World) : (Instr.alloc 31 true (.tuple #[])).run Try.prog w = .ok (.pointer (some ⟨w.heap.size, 0, none⟩)) (w.alloc (.cells Z64 31)) := by kernel_rfl
theorem build64 (w : World) : (Instr.build 31 #[(0, .int .u32 3614090360), (1, .int .u32 3905402710), (2, .int .u32 606105819), (3, .int .u32 3250441966), (4, .int .u32 4118548399), (5, .int .u32 1200080426), (6, .int .u32 2821735955), (7, .int .u32 4249261313), (8, .int .u32 1770035416), (9, .int .u32 2336552879), (10, .int .u32 4294925233), (11, .int .u32 2304563134), (12, .int .u32 1804603682), (13, .int .u32 4254626195), (14, .int .u32 2792965006), (15, .int .u32 1236535329), (16, .int .u32 4129170786), (17, .int .u32 3225465664), (18, .int .u32 643717713), (19, .int .u32 3921069994), (20, .int .u32 3593408605), (21, .int .u32 38016083), (22, .int .u32 3634488961), (23, .int .u32 3889429448), (24, .int .u32 568446438), (25, .int .u32 3275163606), (26, .int .u32 4107603335), (27, .int .u32 1163531501), (28, .int .u32 2850285829), (29, .int .u32 4243563512), (30, .int .u32 1735328473), (31, .int .u32 2368359562), (32, .int .u32 4294588738), (33, .int .u32 2272392833), (34, .int .u32 1839030562), (35, .int .u32 4259657740), (36, .int .u32 2763975236), (37, .int .u32 1272893353), (38, .int .u32 4139469664), (39, .int .u32 3200236656), (40, .int .u32 681279174), (41, .int .u32 3936430074), (42, .int .u32 3572445317), (43, .int .u32 76029189), (44, .int .u32 3654602809), (45, .int .u32 3873151461), (46, .int .u32 530742520), (47, .int .u32 3299628645), (48, .int .u32 4096336452), (49, .int .u32 1126891415), (50, .int .u32 2878612391), (51, .int .u32 4237533241), (52, .int .u32 1700485571), (53, .int .u32 2399980690), (54, .int .u32 4293915773), (55, .int .u32 2240044497), (56, .int .u32 1873313359), (57, .int .u32 4264355552), (58, .int .u32 2734768916), (59, .int .u32 1309151649), (60, .int .u32 4149444226), (61, .int .u32 3174756917), (62, .int .u32 718787259), (63, .int .u32 3951481745)]).run Try.prog w = .ok (.agg kcells) w := by kernel_rfl
theorem size64 : (Try.prog.info? 31).map (·.size) = some kcells.size := by kernel_rfl
theorem one64 : kcells.all (·.oneCell') = true := by kernel_rfl
theorem there64 (w : World) : (w.alloc (.cells Z64 31)).there w.heap.size 0 kcells.size := by
  intro j hj
  have hs : kcells.size = 64 := by kernel_rfl
  rw [hs] at hj
  rw [Nat.zero_add]
  refine ⟨?_, (At.new w _ _).free j⟩
  rw [(At.new w 31 Z64).cell j (.int .u32 0) (by unfold Z64; rw [List.getElem?_toArray, List.getElem?_replicate, if_pos hj])]; rfl
theorem range64 (w : World) : ((w.alloc (.cells Z64 31)).setCells w.heap.size 0 kcells.toList).rangeAt w.heap.size 0 kcells.toList :=
  World.rangeAt_setCells_same _ _ _ _ (there64 w)
theorem kat_range {g : Nat} {w : World} (h : w.rangeAt g 0 kcells.toList) : KAt g w := fun i hi => by
  have h1 := h i (.int .u32 (u (sin i))) (by
    unfold kcells sin
    have hl : SINES.length = 64 := rfl
    rw [List.getElem?_map, List.getElem?_eq_getElem (by omega), List.getD_eq_getElem?_getD, List.getElem?_eq_getElem (by omega)]; rfl)
  rwa [Nat.zero_add] at h1
theorem below64 (w : World) : Below w.heap.size w ((w.alloc (.cells Z64 31)).setCells w.heap.size 0 kcells.toList) :=
  ((Below.refl _ _).alloc (Nat.le_refl _) _).grown (grown_sets _ _ _ _) (by simp) (fun k hk => by injection hk with hk; omega)
theorem results_cell {P : Program} {fn : Func} {t : Tmp} {ty : TypeId} {tmps : Array Value} {a : Addr} {v : Value} {w : World} (h : fn.results = #[.cell t ty]) (ha : tmps.getD t undef = .pointer (some a)) (hl : (loadVar ty a).run P w = .ok v w) : (results fn tmps).run P w = .ok v w := by
  rw [Array.getD_eq_getD_getElem?] at ha
  unfold results
  rw [h]
  simp [ha, asAddr, hl]
end Go.Proofs.Ytcgopnknnolhkaa.Dg
