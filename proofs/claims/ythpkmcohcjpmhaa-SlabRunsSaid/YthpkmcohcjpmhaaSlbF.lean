/- slab at this translation: Write. -/
import Derived.Test.YthpkmcohcjpmhaaSlbE
import Derived.StillTailTactics
set_option linter.unusedVariables false
set_option linter.unusedSimpArgs false
namespace Go.Proofs.Ythpkmcohcjpmhaa.Slb
open Go.RowKit U
variable {gS gB : Nat} {s : S} {w : World}
theorem Write_begin (h : Is gS gB s w) (n : Int) (b : ByteArray) (hn : beg s n ≠ 0) : Calls Try.prog 12 #[P gS, .int .i64 n, .string b] w fun e w' => e = .returned (.int .i64 (beg s n)) ∧ w = w' := by
  have HB := Lib.hid (begin_any h n)
  obtain ⟨r, hr⟩ : ∃ r, r = beg s n := ⟨_, rfl⟩
  rw [← hr] at HB hn ⊢
  have h0 : (r == 0) = false := by rw [beq_eq_false_iff_ne]; exact hn
  have h1 : (r != 0) = true := by rw [bne_iff_ne]; exact hn
  clear hr h hn
  go_enter Try.func12, Try.ntmps12
  go_wp2_with fail
  refine HB.out.mono ?_
  rintro e w1 ⟨rfl, rfl⟩
  go_wp2
  go_ret
  exact ⟨rfl, rfl⟩
theorem Write_nil (n : Int) (b : ByteArray) (w : World) : Calls Try.prog 12 #[.pointer none, .int .i64 n, .string b] w fun e w' => e = .returned (.int .i64 7) ∧ w = w' := by
  have HB := Lib.hid (begin_nil n w)
  go_enter Try.func12, Try.ntmps12
  go_wp2_with fail
  refine HB.out.mono ?_
  rintro e w1 ⟨rfl, rfl⟩
  go_wp2
  go_ret
  exact ⟨rfl, rfl⟩
theorem Read_nil (n : Int) (w : World) : Calls Try.prog 22 #[.pointer none, .int .i64 n] w fun e w' => e = .returned (.tuple #[.string ⟨#[]⟩, .int .i64 7]) ∧ w = w' := by
  have HB := Lib.hid (begin_nil n w)
  go_enter Try.func22, Try.ntmps22
  go_wp2_with fail
  refine HB.out.mono ?_
  rintro e w1 ⟨rfl, rfl⟩
  go_wp2
  go_ret2
  exact ⟨rfl, rfl⟩
theorem Arm_nil (a k : Int) (w : World) : Calls Try.prog 15 #[.pointer none, .int .i64 a, .int .i64 k] w fun e w' => e = .returned (.tuple #[]) ∧ w = w' := by
  go_enter Try.func15, Try.ntmps15
  go_wp2
  go_end0
  exact ⟨rfl, rfl⟩
theorem Mend_nil (w : World) : Calls Try.prog 17 #[.pointer none] w fun e w' => e = .returned (.tuple #[]) ∧ w = w' := by
  go_enter Try.func17, Try.ntmps17
  go_wp2
  go_end0
  exact ⟨rfl, rfl⟩
theorem Write_short (h : Is gS gB s w) (n : Int) (b : ByteArray) (hn : beg s n = 0) (hb : b.size ≠ 64) (hb2 : b.size ≤ 9223372036854775807) : Calls Try.prog 12 #[P gS, .int .i64 n, .string b] w fun e w' => e = .returned (.int .i64 2) ∧ w = w' := by
  have HB := Lib.hid (begin_any h n)
  rw [hn] at HB
  have h0 : ((b.size : Int) == 64) = false := by rw [beq_eq_false_iff_ne]; omega
  have h1 : ((b.size : Int) != 64) = true := by rw [bne_iff_ne]; omega
  clear h hn
  go_enter Try.func12, Try.ntmps12
  go_wp2_with fail
  refine HB.out.mono ?_
  rintro e w1 ⟨rfl, rfl⟩
  go_wp2
  go_ret
  exact ⟨rfl, rfl⟩
/-- What stands behind a call that wrote into the slab's two blocks alone. -/
def Post (gS gB : Nat) (s' : S) (w : World) (r : Value) (e : Ending) (w' : World) : Prop := e = .returned r ∧ Is gS gB s' w' ∧ ∀ B, B ≤ gS → B ≤ gB → Below B w w'
theorem sz1 : ∀ w, (Go.sizeOf 5).run Try.prog w = .ok 1 w := Try.sizeOf5
abbrev vals (l : List UInt8) : List Value := l.map fun x => Value.int .u8 (x.toNat : Int)
/-- A world of the slab behind 'copy' into one of its blocks. -/
theorem copied (h : Is gS gB s w) (k : Nat) (hk : k < s.bs.length) (cap : Nat) (t : ByteArray) (ht : t.size ≤ 64) (ty : TypeId) :
    (Builtin.copy_ #[55, 9] ty #[.slice (some ⟨gB, k * 64, none⟩) 64 cap, .string t]).run Try.prog w = .ok (goInt t.size) (w.setCells gB (k * 64) (vals t.data.toList)) := by
  have h64 : (s.bs[k]).length = 64 := h.len _ (List.getElem_mem _)
  exact run_copy_string (P := Try.prog) w _ _ ty 5 gB (k * 64) 64 cap t Try.underlying55 sz1 ht (fun j hj => by rw [h.byte k hk j (by omega)]; rfl) (fun j _ => h.hb.free _)
theorem Is.copy (h : Is gS gB s w) (k : Nat) (hk : k < s.bs.length) (l : List UInt8) (hl : l.length ≤ 64) : Is gS gB { s with bs := wr s.bs k l } (w.setCells gB (k * 64) (vals l)) := by
  refine ⟨?_, flat_put gB s.bs h.len k hk l hl h.hb, h.ne, wr_len s.bs h.len k l hl, by rw [wr_size]; exact h.few⟩
  unfold head_
  rw [wr_size]
  exact At_other h.ne _ _ _ h.hs
theorem Is.set1 (h : Is gS gB s w) (a : Int) : Is gS gB { s with after := a } (w.setCell ⟨gS, 1, none⟩ (.int .i64 a)) := ⟨h.hs.set 1 _, h.hb.other ⟨gS, 1, none⟩ _ h.ne.symm, h.ne, h.len, h.few⟩
theorem Is.set3 (h : Is gS gB s w) (a : Bool) : Is gS gB { s with dead := a } (w.setCell ⟨gS, 3, none⟩ (.bool a)) := ⟨h.hs.set 3 _, h.hb.other ⟨gS, 3, none⟩ _ h.ne.symm, h.ne, h.len, h.few⟩
theorem Is.set4 (h : Is gS gB s w) (a : Int) : Is gS gB { s with writes := a } (w.setCell ⟨gS, 4, none⟩ (.int .i64 a)) := ⟨h.hs.set 4 _, h.hb.other ⟨gS, 4, none⟩ _ h.ne.symm, h.ne, h.len, h.few⟩
end Go.Proofs.Ythpkmcohcjpmhaa.Slb
