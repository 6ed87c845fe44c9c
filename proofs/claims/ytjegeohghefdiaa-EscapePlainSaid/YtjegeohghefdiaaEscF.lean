/- Layer 2's functions as the printed texts want them: what each returns, as a function that may fail past 2^45 bytes. -/
import Derived.Test.YtjegeohghefdiaaEscD
set_option linter.unusedVariables false
namespace Go.Proofs.Ytjegeohghefdiaa.F
open Go.RowKit EscP
/-- A bound on lengths. -/
def lim : Nat := 35184372088832
def escape_Escape.f (a0 : ByteArray) : Option (ByteArray × Int) :=
  if a0.size ≤ lim then some (if bad a0.data.toList then (ByteArray.empty, 20) else (⟨(escG a0.data.toList).toArray⟩, 0)) else none
theorem escape_Escape.calls (a0 : ByteArray) (r1 : ByteArray) (r2 : Int) (w : World) (h : escape_Escape.f a0 = some (r1, r2)) :
    Calls Try.prog 9 #[.string a0] w fun e w' => e = .returned (.tuple #[.string r1, .int .i64 r2]) ∧ Below w.heap.size w w' := by
  unfold escape_Escape.f at h
  by_cases hc : a0.size ≤ lim
  · rw [if_pos hc] at h
    cases hb : bad a0.data.toList with
    | true =>
      rw [hb] at h; simp only [if_true] at h
      obtain ⟨rfl, rfl⟩ := Prod.mk.inj (Option.some.inj h)
      exact Esc.Escape_bad a0 hc hb w
    | false =>
      rw [hb] at h; simp only [Bool.false_eq_true, if_false] at h
      obtain ⟨rfl, rfl⟩ := Prod.mk.inj (Option.some.inj h)
      exact Esc.Escape_good a0 hc hb w
  · rw [if_neg hc] at h; cases h
def wharfref02_Escape.f (a0 : ByteArray) : Option (ByteArray × Int) :=
  if a0.size ≤ lim then some (if bad a0.data.toList then (ByteArray.empty, 20) else (⟨(escG a0.data.toList).toArray⟩, 0)) else none
theorem wharfref02_Escape.calls (a0 : ByteArray) (r1 : ByteArray) (r2 : Int) (w : World) (h : wharfref02_Escape.f a0 = some (r1, r2)) :
    Calls Try.prog 10 #[.string a0] w fun e w' => e = .returned (.tuple #[.string r1, .int .i64 r2]) ∧ Below w.heap.size w w' := by
  unfold wharfref02_Escape.f at h
  by_cases hc : a0.size ≤ lim
  · rw [if_pos hc] at h
    cases hb : bad a0.data.toList with
    | true =>
      rw [hb] at h; simp only [if_true] at h
      obtain ⟨rfl, rfl⟩ := Prod.mk.inj (Option.some.inj h)
      exact Esc.REscape_bad a0 hc hb w
    | false =>
      rw [hb] at h; simp only [Bool.false_eq_true, if_false] at h
      obtain ⟨rfl, rfl⟩ := Prod.mk.inj (Option.some.inj h)
      exact Esc.REscape_good a0 hc hb w
  · rw [if_neg hc] at h; cases h
def escape_Unescape.f (a0 : ByteArray) : Option ByteArray := if a0.size ≤ lim then some ⟨(un a0.data.toList).toArray⟩ else none
theorem escape_Unescape.calls (a0 : ByteArray) (r : ByteArray) (w : World) (h : escape_Unescape.f a0 = some r) :
    Calls Try.prog 12 #[.string a0] w fun e w' => e = .returned (.string r) ∧ Below w.heap.size w w' := by
  unfold escape_Unescape.f at h
  by_cases hc : a0.size ≤ lim
  · rw [if_pos hc] at h
    obtain rfl := Option.some.inj h
    exact Esc.Unescape_any a0 hc w
  · rw [if_neg hc] at h; cases h
def wharfref02_Unescape.f (a0 : ByteArray) : Option ByteArray := if a0.size ≤ lim then some ⟨(un a0.data.toList).toArray⟩ else none
theorem wharfref02_Unescape.calls (a0 : ByteArray) (r : ByteArray) (w : World) (h : wharfref02_Unescape.f a0 = some r) :
    Calls Try.prog 13 #[.string a0] w fun e w' => e = .returned (.string r) ∧ Below w.heap.size w w' := by
  unfold wharfref02_Unescape.f at h
  by_cases hc : a0.size ≤ lim
  · rw [if_pos hc] at h
    obtain rfl := Option.some.inj h
    exact Esc.RUnescape_any a0 hc w
  · rw [if_neg hc] at h; cases h
def escape_Is.f (a0 : ByteArray) : Option Bool := if a0.size ≤ lim then some (Esc.isOk a0.data.toList) else none
theorem escape_Is.calls (a0 : ByteArray) (r : Bool) (w : World) (h : escape_Is.f a0 = some r) :
    Calls Try.prog 14 #[.string a0] w fun e w' => e = .returned (.bool r) ∧ Below w.heap.size w w' := by
  unfold escape_Is.f at h
  by_cases hc : a0.size ≤ lim
  · rw [if_pos hc] at h
    obtain rfl := Option.some.inj h
    exact Esc.Is_any a0 hc w
  · rw [if_neg hc] at h; cases h
def wharfref02_Is.f (a0 : ByteArray) : Option Bool := if a0.size ≤ lim then some (Esc.isOk a0.data.toList) else none
theorem wharfref02_Is.calls (a0 : ByteArray) (r : Bool) (w : World) (h : wharfref02_Is.f a0 = some r) :
    Calls Try.prog 15 #[.string a0] w fun e w' => e = .returned (.bool r) ∧ Below w.heap.size w w' := by
  unfold wharfref02_Is.f at h
  by_cases hc : a0.size ≤ lim
  · rw [if_pos hc] at h
    obtain rfl := Option.some.inj h
    exact Esc.RIs_any a0 hc w
  · rw [if_neg hc] at h; cases h

end Go.Proofs.Ytjegeohghefdiaa.F
