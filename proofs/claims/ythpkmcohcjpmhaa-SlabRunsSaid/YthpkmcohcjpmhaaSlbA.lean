/- slab at this translation: begin, Dead, Writes, Len, Arm, Mend of a slab that is known whole. -/
import Derived.Test.YthpkmcohcjpmhaaBox
set_option linter.unusedVariables false
set_option linter.unusedSimpArgs false
namespace Go.Proofs.Ythpkmcohcjpmhaa.Slb
open Go.RowKit U

/-- A slab, plain. -/
structure S where
  bs : List (List UInt8)
  after : Int
  keep : Int
  dead : Bool
  writes : Int
def flat (bs : List (List UInt8)) : Array Value := (bs.flatten.map fun b => Value.int .u8 (b.toNat : Int)).toArray
def head_ (gB : Nat) (s : S) : Array Value := #[.slice (some ⟨gB, 0, none⟩) s.bs.length s.bs.length, .int .i64 s.after, .int .i64 s.keep, .bool s.dead, .int .i64 s.writes]
/-- Blocks gS and gB are this slab. -/
structure Is (gS gB : Nat) (s : S) (w : World) : Prop where
  hs : At gS 54 (head_ gB s) w
  hb : At gB 58 (flat s.bs) w
  ne : gS ≠ gB
  len : ∀ b ∈ s.bs, b.length = 64
  few : s.bs.length ≤ 4096
variable {gS gB : Nat} {s : S} {w : World}
theorem Is.c0 (h : Is gS gB s w) : w.cell? ⟨gS, 0, none⟩ = some (.slice (some ⟨gB, 0, none⟩) s.bs.length s.bs.length) := h.hs.cell 0 _ rfl
theorem Is.c1 (h : Is gS gB s w) : w.cell? ⟨gS, 1, none⟩ = some (.int .i64 s.after) := h.hs.cell 1 _ rfl
theorem Is.c2 (h : Is gS gB s w) : w.cell? ⟨gS, 2, none⟩ = some (.int .i64 s.keep) := h.hs.cell 2 _ rfl
theorem Is.c3 (h : Is gS gB s w) : w.cell? ⟨gS, 3, none⟩ = some (.bool s.dead) := h.hs.cell 3 _ rfl
theorem Is.c4 (h : Is gS gB s w) : w.cell? ⟨gS, 4, none⟩ = some (.int .i64 s.writes) := h.hs.cell 4 _ rfl
theorem Is.fz (h : Is gS gB s w) (i : Nat) : w.frozen? ⟨gS, i, none⟩ = false := h.hs.free i
abbrev P (gS : Nat) : Value := .pointer (some ⟨gS, 0, none⟩)
def beg (s : S) (n : Int) : Int := if s.dead then 210 else if 0 ≤ n ∧ n < s.bs.length then 0 else 2

theorem begin_nil (n : Int) (w : World) : Calls Try.prog 25 #[.pointer none, .int .i64 n] w fun e w' => e = .returned (.int .i64 7) ∧ w = w' := by
  go_enter Try.func25, Try.ntmps25
  go_wp2
  go_ret
  exact ⟨rfl, rfl⟩
theorem begin_any (h : Is gS gB s w) (n : Int) : Calls Try.prog 25 #[P gS, .int .i64 n] w fun e w' => e = .returned (.int .i64 (beg s n)) ∧ w = w' := by
  have c0 := h.c0
  have c3 := h.c3
  have hl := h.few
  unfold beg
  cases hd : s.dead with
  | true =>
    rw [hd] at c3
    clear hd h
    go_enter Try.func25, Try.ntmps25
    go_wp2
    go_ret
    exact ⟨rfl, rfl⟩
  | false =>
    rw [hd] at c3
    clear hd h
    obtain ⟨L, hL⟩ : ∃ L : Nat, L = s.bs.length := ⟨_, rfl⟩
    rw [← hL] at c0 hl ⊢
    clear hL
    by_cases h1 : n < 0
    · have HV := Lib.hid (show (if (0 ≤ n ∧ n < (L : Int)) then (0 : Int) else 2) = 2 from if_neg (by omega))
      go_enter Try.func25, Try.ntmps25
      go_wp2
      go_ret
      exact ⟨rfl, rfl⟩
    · by_cases h2 : n < (L : Int)
      · have HV := Lib.hid (show (if (0 ≤ n ∧ n < (L : Int)) then (0 : Int) else 2) = 0 from if_pos (by omega))
        go_enter Try.func25, Try.ntmps25
        go_wp2
        go_ret
        exact ⟨rfl, rfl⟩
      · have HV := Lib.hid (show (if (0 ≤ n ∧ n < (L : Int)) then (0 : Int) else 2) = 2 from if_neg (by omega))
        go_enter Try.func25, Try.ntmps25
        go_wp2
        go_ret
        exact ⟨rfl, rfl⟩
theorem Dead_any (h : Is gS gB s w) : Calls Try.prog 19 #[P gS] w fun e w' => e = .returned (.bool s.dead) ∧ w = w' := by
  have c3 := h.c3
  clear h
  go_enter Try.func19, Try.ntmps19
  go_wp2
  go_ret
  exact ⟨rfl, rfl⟩
theorem Dead_nil (w : World) : Calls Try.prog 19 #[.pointer none] w fun e w' => e = .returned (.bool false) ∧ w = w' := by
  go_enter Try.func19, Try.ntmps19
  go_wp2
  go_ret
  exact ⟨rfl, rfl⟩
theorem Writes_any (h : Is gS gB s w) : Calls Try.prog 20 #[P gS] w fun e w' => e = .returned (.int .i64 s.writes) ∧ w = w' := by
  have c4 := h.c4
  clear h
  go_enter Try.func20, Try.ntmps20
  go_wp2
  go_ret
  exact ⟨rfl, rfl⟩
theorem Writes_nil (w : World) : Calls Try.prog 20 #[.pointer none] w fun e w' => e = .returned (.int .i64 0) ∧ w = w' := by
  go_enter Try.func20, Try.ntmps20
  go_wp2
  go_ret
  exact ⟨rfl, rfl⟩
theorem Len_any (h : Is gS gB s w) : Calls Try.prog 21 #[P gS] w fun e w' => e = .returned (.int .i64 s.bs.length) ∧ w = w' := by
  have c0 := h.c0
  clear h
  go_enter Try.func21, Try.ntmps21
  go_wp2
  go_ret
  exact ⟨rfl, rfl⟩
theorem Len_nil (w : World) : Calls Try.prog 21 #[.pointer none] w fun e w' => e = .returned (.int .i64 0) ∧ w = w' := by
  go_enter Try.func21, Try.ntmps21
  go_wp2
  go_ret
  exact ⟨rfl, rfl⟩
/-- The world but for the slab's two blocks. -/
structure Near (base gS gB : Nat) (w w' : World) : Prop where
  size : w.heap.size ≤ w'.heap.size
  os : w'.os = w.os
  tape : w'.tape = w.tape
  output : w'.output = w.output
  block : ∀ k, k < w.heap.size → k ≠ gS → k ≠ gB → w'.heap[k]? = w.heap[k]?
theorem Mend_any (h : Is gS gB s w) : Calls Try.prog 17 #[P gS] w fun e w' => e = .returned (.tuple #[]) ∧ Is gS gB { s with after := -1, dead := false } w' ∧ w' = (w.setCell ⟨gS, 1, none⟩ (.int .i64 (-1))).setCell ⟨gS, 3, none⟩ (.bool false) := by
  have c1 := h.c1
  have c3 := h.c3
  have f1 := h.fz 1
  have f3 := h.fz 3
  have H := Lib.hid h
  clear h
  go_enter Try.func17, Try.ntmps17
  go_wp2
  go_end0
  refine ⟨rfl, ⟨?_, ?_, H.out.ne, H.out.len, H.out.few⟩, rfl⟩
  · exact (H.out.hs.set 1 _).set 3 _
  · exact (H.out.hb.other ⟨gS, 1, none⟩ _ H.out.ne.symm).other ⟨gS, 3, none⟩ _ H.out.ne.symm
end Go.Proofs.Ythpkmcohcjpmhaa.Slb
