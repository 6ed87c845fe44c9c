/- A slice of acts that came in; wharflaw21.small. -/
import Derived.Test.YthpkmcohcjpmhaaSlbI
set_option linter.unusedVariables false
set_option linter.unusedSimpArgs false
namespace Go.Proofs.Ythpkmcohcjpmhaa.Slb
open Go.RowKit U
structure Act where
  kind : Int
  n : Int
  keep : Int
  b : ByteArray
  raw : Bool
/-- A slice reads as these acts. -/
structure ActAt (w : World) (ad : Addr) (i : Nat) (a : Act) : Prop where
  lt : ad.block < w.heap.size
  c0 : w.cell? (ad.add (i * 5)) = some (.int .i64 a.kind)
  c1 : w.cell? ⟨(ad.add (i * 5)).block, (ad.add (i * 5)).off + 1, none⟩ = some (.int .i64 a.n)
  c2 : w.cell? ⟨(ad.add (i * 5)).block, (ad.add (i * 5)).off + 2, none⟩ = some (.int .i64 a.keep)
  c3 : w.cell? ⟨(ad.add (i * 5)).block, (ad.add (i * 5)).off + 3, none⟩ = some (.string a.b)
  c4 : w.cell? ⟨(ad.add (i * 5)).block, (ad.add (i * 5)).off + 4, none⟩ = some (.bool a.raw)
theorem addB (a : Addr) (n : Nat) : (a.add n).block = a.block := by unfold Addr.add; split <;> rfl
theorem ActAt.below {w w' : World} {ad : Addr} {i : Nat} {a : Act} (h : ActAt w ad i a) (hb : Below w.heap.size w w') : ActAt w' ad i a := by
  have k : ∀ m, w'.cell? ⟨(ad.add (i * 5)).block, (ad.add (i * 5)).off + m, none⟩ = w.cell? ⟨(ad.add (i * 5)).block, (ad.add (i * 5)).off + m, none⟩ := fun m => hb.cell (by show (ad.add (i * 5)).block < _; rw [addB]; exact h.lt)
  exact ⟨Nat.lt_of_lt_of_le h.lt hb.size, (hb.cell (by rw [addB]; exact h.lt)).trans h.c0, (k 1).trans h.c1, (k 2).trans h.c2, (k 3).trans h.c3, (k 4).trans h.c4⟩
def Acts (w : World) (A : Option Addr) (l : List Act) : Prop := ∀ i (h : i < l.length), ∃ ad, A = some ad ∧ ActAt w ad i l[i]
theorem Acts.below {w w' : World} {A : Option Addr} {l : List Act} (h : Acts w A l) (hb : Below w.heap.size w w') : Acts w' A l := fun i hi => by
  obtain ⟨ad, e, ha⟩ := h i hi
  exact ⟨ad, e, ha.below hb⟩
def smallB (l : List Act) : Bool := decide (l.length ≤ 60) && l.all (fun a => decide (a.b.size ≤ 128))
variable {w : World} {A : Option Addr} {l : List Act}
set_option maxHeartbeats 1000000 in
theorem small_any (h : Acts w A l) (hl : l.length ≤ 9223372036854775807) (hz : ∀ a ∈ l, a.b.size ≤ 9223372036854775807) (c : Nat) : Calls Try.prog 7 #[.slice A l.length c] w fun e w' => e = .returned (.bool (smallB l)) ∧ w = w' := by
  have HA := Lib.hid h
  have HZ := Lib.hid hz
  clear h hz
  obtain ⟨R, hR⟩ : ∃ R, R = smallB l := ⟨_, rfl⟩
  rw [← hR]
  have HR := Lib.hid hR
  clear hR
  obtain ⟨n, hn⟩ : ∃ n, n = l.length := ⟨_, rfl⟩
  rw [← hn] at hl ⊢
  have HN := Lib.hid hn
  clear hn
  go_enter Try.func7, Try.ntmps7
  go_wp2
  go_loopw [3] (fun i wr => ∃ k : Nat, k ≤ n ∧ i = .int .i64 k ∧ Hid (∀ a ∈ l.take k, a.b.size ≤ 128) ∧ w = wr) (fun i _ => n - (intOf i).toNat)
  case atStart => exact ⟨0, by omega, rfl, Lib.hid (by simp), rfl⟩
  case round =>
    obtain ⟨k, hk, rfl, HB, rfl⟩ := hrel
    by_cases h1 : k < n
    · by_cases h2 : (k : Int) ≤ 60
      · have hk' : k < l.length := by rw [← HN.out]; exact h1
        obtain ⟨ad, rfl, ha⟩ := HA.out k hk'
        have c3 := ha.c3
        have hz' := HZ.out l[k] (List.getElem_mem _)
        have HT := Lib.hid (List.take_succ_eq_append_getElem hk')
        obtain ⟨a, hA⟩ : ∃ a, a = l[k] := ⟨_, rfl⟩
        rw [← hA] at c3 hz' HT
        have HM : Hid (a ∈ l) := Lib.hid (by rw [hA]; exact List.getElem_mem _)
        clear ha hA hk'
        by_cases h3 : (128 : Int) < (a.b.size : Int)
        · have : R = false := by
            rw [HR.out]; unfold smallB
            rw [Bool.and_eq_false_iff]; right
            rw [List.all_eq_false]
            exact ⟨a, HM.out, by simp; omega⟩
          subst this
          go_wp2
          go_ret
          exact ⟨rfl, rfl⟩
        · go_wp2
          go_roundw
          case rel => exact ⟨k + 1, by omega, by go_num, Lib.hid (by
            rw [HT.out]
            intro x hx
            rw [List.mem_append] at hx
            rcases hx with hx | hx
            · exact HB.out x hx
            · rw [List.mem_singleton] at hx; subst hx; omega), by trivial⟩
          case measure => simp [intOf]; omega
      · have h4 : ¬ (n : Int) ≤ 60 := by omega
        have : R = false := by
          rw [HR.out]; unfold smallB
          rw [Bool.and_eq_false_iff]; left
          rw [← HN.out]; simp; omega
        subst this
        go_wp2
        go_ret
        exact ⟨rfl, rfl⟩
    · have hkn : k = n := by omega
      have hall : l.all (fun a => decide (a.b.size ≤ 128)) = true := by
        rw [List.all_eq_true]
        intro x hx
        have := HB.out x (by rw [hkn, HN.out, List.take_length]; exact hx)
        simpa using this
      have : R = decide ((n : Int) ≤ 60) := by
        rw [HR.out]; unfold smallB
        rw [hall, Bool.and_true, ← HN.out]
        rw [decide_eq_decide]; omega
      subst this
      clear hall
      go_wp2
      go_ret
      exact ⟨rfl, rfl⟩
end Go.Proofs.Ythpkmcohcjpmhaa.Slb
