/- wharfref21's slab: New. -/
import Derived.Test.YthpkmcohcjpmhaaSlbQ
import Derived.Test.YthpkmcohcjpmhaaOrd
set_option linter.unusedVariables false
set_option linter.unusedSimpArgs false
namespace Go.Proofs.Ythpkmcohcjpmhaa.Slb
open Go.RowKit U
variable {w w' w0 : World} {s : S} {base rS : Nat} {v : Value}
def rcells (v : Value) (s : S) : List Value := [v, .int .i64 s.after, .int .i64 s.keep, .bool s.dead, .int .i64 s.writes]
/-- The reference's slab: its struct and its row. -/
structure RIs (base rS : Nat) (v : Value) (s : S) (w : World) : Prop where
  hs : w.ownsRow base 41 5 (.slice (some ⟨rS, 0, none⟩) 1 1) 1 (rcells v s)
  hr : w.ownsRow base 9 1 v s.bs.length (strs s.bs)
  ne : v.ownBlock ≠ some rS
  len : ∀ b ∈ s.bs, b.length = 64
theorem RIs.cell (h : RIs base rS v s w) (j : Nat) (hj : j < 5) : w.cell? ⟨rS, j, none⟩ = (rcells v s)[j]? := h.hs.cellAt j (by omega)
theorem RIs.c0 (h : RIs base rS v s w) : w.cell? ⟨rS, 0, none⟩ = some v := h.cell 0 (by decide)
theorem RIs.c1 (h : RIs base rS v s w) : w.cell? ⟨rS, 1, none⟩ = some (.int .i64 s.after) := h.cell 1 (by decide)
theorem RIs.c2 (h : RIs base rS v s w) : w.cell? ⟨rS, 2, none⟩ = some (.int .i64 s.keep) := h.cell 2 (by decide)
theorem RIs.c3 (h : RIs base rS v s w) : w.cell? ⟨rS, 3, none⟩ = some (.bool s.dead) := h.cell 3 (by decide)
theorem RIs.c4 (h : RIs base rS v s w) : w.cell? ⟨rS, 4, none⟩ = some (.int .i64 s.writes) := h.cell 4 (by decide)
theorem RIs.fz (h : RIs base rS v s w) (j : Nat) : w.frozen? ⟨rS, j, none⟩ = false := h.hs.frozenAt j
theorem RIs.base_le (h : RIs base rS v s w) : base ≤ rS ∧ rS < w.heap.size := h.hs.lt rS rfl
theorem RIs.below (h : RIs base rS v s w) (hb : Below w.heap.size w w') : RIs base rS v s w' := ⟨own_below h.hs hb, own_below h.hr hb, h.ne, h.len⟩
theorem rgrown {row : Option Nat} {e : TypeId} {k : Nat} {u : Value} {n : Nat} {xs : List Value} (h : w.ownsRow base e k u n xs) (hg : w.grownBy w' row) (hne : ∀ b, u.ownBlock = some b → row ≠ some b) : w'.ownsRow base e k u n xs := by
  refine h.kept hg ?_
  cases hb : u.ownBlock with
  | none => exact .inl rfl
  | some b => exact .inr fun e => hne b hb e.symm
theorem own_blk {e : TypeId} {k : Nat} {u : Value} {n : Nat} {xs : List Value} (h : w.ownsRow base e k u n xs) (a : Addr) (hne : u.ownBlock ≠ some a.block) (x : Value) : (w.setCell a x).ownsRow base e k u n xs :=
  rgrown h (row := some a.block) ⟨rfl, rfl, rfl, by simp, fun k _ hk => heap_setCell_other w a k x (fun e => hk (by simp [e]))⟩ (fun b hb e => hne (by rw [hb]; exact e.symm))
theorem own_apart {b1 b2 : Nat} {e1 e2 : TypeId} {k1 k2 : Nat} {u1 u2 : Value} {n1 n2 : Nat} {x1 x2 : List Value} (h1 : w.ownsRow b1 e1 k1 u1 n1 x1) (h2 : w.ownsRow b2 e2 k2 u2 n2 x2) (he : e1 ≠ e2) (g : Nat) (hg : u2.ownBlock = some g) : u1.ownBlock ≠ some g := by
  intro hh
  rcases h1.2 with ⟨rfl, _⟩ | ⟨g1, c1, cur1, rfl, _, hb1, _⟩
  · cases hh
  · rcases h2.2 with ⟨rfl, _⟩ | ⟨g2, c2, cur2, rfl, _, hb2, _⟩
    · cases hg
    · have q1 : g1 = g := by simpa [Value.ownBlock] using hh
      have q2 : g2 = g := by simpa [Value.ownBlock] using hg
      rw [q1] at hb1
      rw [q2, hb1] at hb2
      injection hb2 with hb2
      injection hb2 with _ hb2
      exact he hb2
theorem RIs.put {rS : Nat} {s s' : S} {u : Value} (j : Nat) (x : Value) (hs : w.ownsRow base 41 5 (.slice (some ⟨rS, 0, none⟩) 1 1) 1 (rcells v s)) (hr : w.ownsRow base 9 1 u s'.bs.length (strs s'.bs)) (hx : (rcells v s).set j x = rcells u s') (hl : ∀ b ∈ s'.bs, b.length = 64) :
    RIs base rS u s' (w.setCell ⟨rS, j, none⟩ x) := by
  have h1 := (hs.stored j x).1
  rw [hx] at h1
  exact ⟨h1, own_blk hr ⟨rS, j, none⟩ (own_apart hr hs (by decide) rS rfl) x, own_apart hr hs (by decide) rS rfl, hl⟩
def R0 (n : Nat) : S := ⟨List.replicate n zs, -1, 0, false, 0⟩
def RNewPost (w : World) (n : Nat) (e : Ending) (w' : World) : Prop := ∃ rS v, e = .returned (.tuple #[.pointer (some ⟨rS, 0, none⟩), .int .i64 0]) ∧ RIs w.heap.size rS v (R0 n) w' ∧ Below w.heap.size w w'
theorem mk64 (w : World) : (Instr.makeSlice 55 (.int .i64 64) (.int .i64 64)).run Try.prog w = .ok (.slice (some ⟨w.heap.size, 0, none⟩) 64 64) (w.alloc (.cells (List.replicate 64 (.int .u8 0)).toArray 5)) := by
  have hi := infoU8
  rw [Option.map_eq_some_iff] at hi
  obtain ⟨i, hi1, hi2⟩ := hi
  obtain ⟨hz, hsz⟩ := Prod.mk.inj hi2
  obtain ⟨hsz, hbt⟩ := Prod.mk.inj hsz
  rw [Option.map_eq_some_iff] at hz
  obtain ⟨z, hz1, hz2⟩ := hz
  have := run_makeSlice (P := Try.prog) (w := w) 55 5 i z Try.underlying55 hi1 hz1 .i64 .i64 64 64 (by omega) (by omega) (by rw [hsz]; omega) (by rw [hbt]; omega) (by omega)
  rw [hz2, hsz, show (64 : Int).toNat * 1 = 64 from rfl, show (#[Value.int .u8 0] : Array Value) = (List.replicate 1 (Value.int .u8 0)).toArray from rfl, zerosG 1 64 (by decide)] at this
  exact this
theorem txt64 (w : World) : (convert 55 9 (.slice (some ⟨w.heap.size, 0, none⟩) 64 64)).run Try.prog (w.alloc (.cells (List.replicate 64 (.int .u8 0)).toArray 5)) = .ok (.string ⟨zs.toArray⟩) (w.alloc (.cells (List.replicate 64 (.int .u8 0)).toArray 5)) := by
  have hb : BytesAt w.heap.size zs (w.alloc (.cells (List.replicate 64 (.int .u8 0)).toArray 5)) := by
    intro j hj
    refine ⟨(At.new w _ _).cell j _ ?_, (At.new w _ _).free j⟩
    have h64 : j < 64 := hj
    rw [List.getElem?_toArray, List.getElem?_replicate, if_pos h64]
    have hz : ∀ x : UInt8, x = 0 → some (Value.int .u8 0) = some (Value.int .u8 (x.toNat : Int)) := fun x hx => by rw [hx]; rfl
    exact hz _ (List.eq_of_mem_replicate (List.getElem_mem hj))
  exact hb.text (P := Try.prog) 55 9 5 64 Try.underlying55 Try.underlying5 Try.underlying9
theorem RNew_bad (n : Int) (h : n < 0 ∨ 4096 < n) (w : World) : Calls Try.prog 10 #[.int .i64 n] w fun e w' => e = .returned (.tuple #[.pointer none, .int .i64 2]) ∧ w = w' := by
  by_cases h1 : n < 0
  · clear h
    go_enter Try.func10, Try.ntmps10
    go_wp2
    go_ret2
    exact ⟨rfl, rfl⟩
  · have h2 : 4096 < n := by omega
    clear h
    go_enter Try.func10, Try.ntmps10
    go_wp2
    go_ret2
    exact ⟨rfl, rfl⟩
set_option maxRecDepth 100000 in
set_option maxHeartbeats 2000000 in
theorem RNew_ok (n : Nat) (h : n ≤ 20) (w : World) : Calls Try.prog 10 #[.int .i64 (n : Int)] w (RNewPost w n) := by
  have b1 : ¬ ((n : Int) < 0) := by omega
  have b2 : ¬ ((4096 : Int) < (n : Int)) := by omega
  have HMK := Lib.hid mk64
  have HTX := Lib.hid txt64
  have HZN : Hid (∀ k : Nat, strs (List.replicate (k + 1) zs) = strs (List.replicate k zs) ++ [.string ⟨zs.toArray⟩]) := Lib.hid fun k => by unfold strs; rw [List.replicate_succ', List.map_append]; rfl
  obtain ⟨Z, hZ⟩ : ∃ Z, Z = (⟨zs.toArray⟩ : ByteArray) := ⟨_, rfl⟩
  rw [← hZ] at HTX HZN
  obtain ⟨F, hF⟩ : ∃ F, F = (List.replicate 64 (Value.int .u8 0)).toArray := ⟨_, rfl⟩
  rw [← hF] at HMK HTX
  clear hZ hF
  obtain ⟨i0, hi, hz0, hz1, hz2⟩ := info_parts infoStr
  have H0 : Hid (RIs w.heap.size w.heap.size (.slice none 0 0) (R0 0) (w.alloc (.cells #[.slice none 0 0, .int .i64 (-1), .int .i64 0, .bool false, .int .i64 0] 41)) ∧ Below w.heap.size w (w.alloc (.cells #[.slice none 0 0, .int .i64 (-1), .int .i64 0, .bool false, .int .i64 0] 41))) :=
    Lib.hid ⟨⟨World.ownsRow_lit w #[.slice none 0 0, .int .i64 (-1), .int .i64 0, .bool false, .int .i64 0] 1 (Nat.le_refl _) (by decide) rfl, World.ownsRow_nil _ _ _ _, by simp [Value.ownBlock], fun b hb => by cases hb⟩, (Below.refl _ _).alloc (Nat.le_refl _) _⟩
  go_enter Try.func10, Try.ntmps10
  go_wp2
  obtain ⟨rS, hrS⟩ : ∃ r, r = w.heap.size := ⟨_, rfl⟩
  rw [← hrS]
  have HRS := Lib.hid hrS
  clear hrS
  go_loopw [5] (fun i wq => ∃ (k : Nat) (v : Value), k ≤ n ∧ i = .int .i64 k ∧ Hid (RIs w.heap.size rS v (R0 k) wq ∧ Below w.heap.size w wq)) (fun i _ => n - (intOf i).toNat)
  case atStart => exact ⟨0, _, by omega, rfl, by rw [HRS.out]; exact H0⟩
  case round =>
    obtain ⟨k, v, hk, rfl, HR⟩ := hrel
    by_cases hlt : k < n
    · have c0 : ∀ x : U.In (U.Ext wr.drew), x.w.cell? ⟨rS, 0, none⟩ = some v := fun x => x.h _ _ HR.out.1.c0
      haveI : Nonempty (U.In (U.Ext wr.drew)) := ⟨⟨_, U.Ext.refl _⟩⟩
      go_wp2
      refine wp_region_ord [0, 1, 2, 3, 4] [5, 6, 7] [8, 9, 10, 11] (by kernel_rfl) (by kernel_rfl) (by kernel_rfl) ?_
      simp only [List.cons_append, List.nil_append, List.filterMap_cons, List.filterMap_nil, List.getElem?_toArray, List.getElem?_cons_succ, List.getElem?_cons_zero]
      change wpQuiet _ _ _ _ [_, _, _, _, _] _
      repeat go_big_quiet_step (fail)
      refine wpQuiet_nil ?_
      obtain ⟨hri, hbel⟩ := HR.out
      have hmk : (Instr.makeSlice 55 (.int .i64 64) (.int .i64 64)).run Try.prog wr.drew = .ok (.slice (some ⟨wr.heap.size, 0, none⟩) 64 64) (wr.alloc (.cells F 5)).drew := HMK.out wr.drew
      have hcv : (convert 55 9 (.slice (some ⟨wr.heap.size, 0, none⟩) 64 64)).run Try.prog (wr.alloc (.cells F 5)).drew = .ok (.string Z) (wr.alloc (.cells F 5)).drew := HTX.out wr.drew
      have hb2 : Below wr.heap.size wr ((wr.alloc (.cells F 5)).alloc (.cells #[.string Z] 9)).drew := U.below_drewN (((Below.refl _ _).alloc (Nat.le_refl _) _).alloc (by simp) _) 1
      have hst2 := own_below hri.hs hb2
      have hown2 := own_below hri.hr hb2
      have hbw := hbel.trans (hb2.mono hbel.size)
      have hsz := hbel.size
      have hne := Lib.hid hri.ne
      have hcell := new_cell (wr.alloc (.cells F 5)) 9 (.string Z)
      have hr0 : (R0 k).bs.length = k := by unfold R0; rw [List.length_replicate]
      rw [hr0] at hown2
      have HST2 := Lib.hid hst2
      have HBW := Lib.hid hbw
      have HC := Lib.hid hcell
      clear hri hbel hb2 hst2 hbw hcell hr0 c0 this
      unfold U.Ends
      change wpList _ _ _ [_, _, _, _, _, _, _] _ _
      go_wp2_with (at_builtin; refine wpList_append_own _ rfl _ _ 39 rfl w.heap.size 9 i0 (.string ⟨#[]⟩) 1 16 Try.underlying39 hi hz0 hz1 hz2 rfl (by decide) _ _ _ rfl hown2 ⟨wr.heap.size + 1, 0, none⟩ 1 1 [.string Z] rfl rfl ?c1 ?c2 ?c3 ?c4 ?c5 ?_)
      case c1 => simpa using HC.out
      case c2 =>
        intro u hu
        rw [List.mem_singleton] at hu
        subst hu; rfl
      case c3 => simp only [maxLen]; omega
      case c4 => omega
      case c5 => simp; omega
      intro v' w5 hown' hgrow _
      obtain ⟨g5, cp5, rfl, hg50, hg51⟩ := hown'.form (by omega)
      clear hg50 hg51
      have hst5 := rgrown HST2.out hgrow (fun b hb e => by
        have : b = rS := by simpa [Value.ownBlock] using hb.symm
        rw [this] at e; exact hne.out e)
      have hb5 : Below w.heap.size w w5 := HBW.out.grown hgrow HBW.out.size (fun g hg => (hown2.lt g hg).1)
      have c0 := hst5.cellAt 0 (by omega)
      have f0 := hst5.frozenAt 0
      have hc0 : w5.cell? ⟨rS, 0, none⟩ = some v := c0
      have HS5 := Lib.hid hst5
      have HO5 := Lib.hid hown'
      have HB5 := Lib.hid hb5
      clear hst5 hown' hb5 hgrow hown2 c0 hmk hcv
      go_wp2
      go_roundw
      case rel =>
        refine ⟨k + 1, _, by omega, by go_num, Lib.hid ⟨RIs.put 0 _ HS5.out ?_ rfl ?_, HB5.out.setCell (p := ⟨rS, 0, none⟩) (by rw [HRS.out]; exact Nat.le_refl _) _⟩⟩
        · have := HO5.out
          rw [show (R0 k).bs = List.replicate k zs from rfl, ← HZN.out] at this
          show w5.ownsRow w.heap.size _ 1 _ (List.replicate (k + 1) zs).length (strs (List.replicate (k + 1) zs))
          rw [List.length_replicate]; exact this
        · intro b hb
          rw [List.eq_of_mem_replicate hb]; rfl
      case measure => simp [intOf]; omega
    · have hkk : k = n := by omega
      subst hkk
      go_wp2
      go_ret2
      unfold RNewPost
      exact ⟨rS, v, rfl, HR.out.1, HR.out.2⟩
end Go.Proofs.Ythpkmcohcjpmhaa.Slb
