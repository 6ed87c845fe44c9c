/- Contracts of functions of this translation, and what they come to; what is not used is left out. -/
import Derived.Lib.DecodeN

section
/- The signs of a text, as plain functions on lists of bytes: no program in sight. -/
set_option linter.unusedVariables false
namespace Go.Proofs.YtpjkbamkaicoiaaDoor.GlyP
open Go.Lib

/-- Byte i of a text (0 beyond its end). -/
def by_ (l : List UInt8) (i : Nat) : Nat := (l.getD i 0).toNat
theorem by_lt (l : List UInt8) (i : Nat) : by_ l i < 256 := (l.getD i 0).toNat_lt
/-- The model's decoding at the front. -/
def dec (l : List UInt8) : Nat × Nat := decodeN l.length (by_ l 0) (by_ l 1) (by_ l 2) (by_ l 3)
/-- The sign at the front, and how many bytes it has. -/
def first (l : List UInt8) : Option (Nat × Nat) := if l.length = 0 then none else if (dec l).1 = 65533 ∧ (dec l).2 = 1 then none else some (dec l)
/-- How many bytes a sign has. -/
def wid (c : Nat) : Nat := if c < 128 then 1 else if c < 2048 then 2 else if c < 65536 then 3 else 4
/-- Is a sign plain? -/
def plain (c : Nat) : Bool := c == 9 || c == 10 || c == 13 || (decide (32 ≤ c) && c != 65534 && c != 65535)
/-- The signs of a text; none: it is none. -/
def signs : Nat → List UInt8 → Option (List Nat)
  | _, [] => some []
  | 0, _ :: _ => none
  | k + 1, a :: l => match first (a :: l) with
    | none => none
    | some (c, n) => if plain c then (signs k ((a :: l).drop n)).map (c :: ·) else none
/-- Is it a text? -/
def isText (l : List UInt8) : Bool := (signs l.length l).isSome

theorem dec_cases (l : List UInt8) : ((dec l).2 = 1 ∧ (dec l).1 < 128) ∨ ((dec l).2 = 2 ∧ 128 ≤ (dec l).1 ∧ (dec l).1 < 2048 ∧ 2 ≤ l.length) ∨
    ((dec l).2 = 3 ∧ 2048 ≤ (dec l).1 ∧ (dec l).1 < 65536 ∧ 3 ≤ l.length) ∨ ((dec l).2 = 4 ∧ 65536 ≤ (dec l).1 ∧ (dec l).1 ≤ 1114111 ∧ 4 ≤ l.length) ∨ ((dec l).2 = 1 ∧ (dec l).1 = 65533) := by
  unfold dec
  have h0 := by_lt l 0
  have h1 := by_lt l 1
  have h2 := by_lt l 2
  have h3 := by_lt l 3
  generalize by_ l 0 = b0 at *
  generalize by_ l 1 = b1 at *
  generalize by_ l 2 = b2 at *
  generalize by_ l 3 = b3 at *
  generalize l.length = n at *
  generalize hd_ : decodeN n b0 b1 b2 b3 = d
  unfold decodeN at hd_
  repeat' split at hd_
  all_goals (subst hd_; dsimp only; omega)
theorem dec_facts (l : List UInt8) (h : 0 < l.length) : 1 ≤ (dec l).2 ∧ (dec l).2 ≤ l.length ∧ (dec l).2 ≤ 4 ∧ (dec l).1 ≤ 1114111 ∧ (¬ ((dec l).1 = 65533 ∧ (dec l).2 = 1) → (dec l).2 = wid (dec l).1) := by
  have := dec_cases l
  unfold wid
  generalize (dec l).1 = c at *
  generalize (dec l).2 = k at *
  refine ⟨by omega, by omega, by omega, by omega, fun hn => ?_⟩
  split
  · omega
  · split
    · omega
    · split <;> omega

/-- U+FFFD stands just if its three bytes do. -/
theorem dec_wrong (l : List UInt8) (h : 0 < l.length) (hd : (dec l).1 = 65533) : ((dec l).2 = 1 ↔ ¬ (3 ≤ l.length ∧ by_ l 0 = 239 ∧ by_ l 1 = 191 ∧ by_ l 2 = 189)) := by
  revert hd
  unfold dec
  have h0 := by_lt l 0
  have h1 := by_lt l 1
  have h2 := by_lt l 2
  have h3 := by_lt l 3
  generalize by_ l 0 = b0 at *
  generalize by_ l 1 = b1 at *
  generalize by_ l 2 = b2 at *
  generalize by_ l 3 = b3 at *
  generalize l.length = n at *
  generalize hd_ : decodeN n b0 b1 b2 b3 = d
  unfold decodeN at hd_
  repeat' split at hd_
  all_goals (subst hd_; dsimp only; intro hd; omega)

theorem first_some (l : List UInt8) (c n : Nat) (h : first l = some (c, n)) : 1 ≤ n ∧ n ≤ l.length ∧ n ≤ 4 ∧ c ≤ 1114111 ∧ n = wid c ∧ dec l = (c, n) := by
  unfold first at h
  split at h
  · cases h
  · split at h
    · cases h
    · rename_i h0 h1
      have hd := dec_facts l (by omega)
      obtain h2 := Option.some.inj h
      rw [h2] at hd h1
      exact ⟨hd.1, hd.2.1, hd.2.2.1, hd.2.2.2.1, hd.2.2.2.2 h1, h2⟩
theorem signs_fuel : ∀ (f g : Nat) (l : List UInt8), l.length ≤ f → l.length ≤ g → signs f l = signs g l
  | 0, 0, l, _, _ => rfl
  | _, _, [], _, _ => by simp [signs]
  | 0, _ + 1, _ :: _, h, _ => by simp at h
  | _ + 1, 0, _ :: _, _, h => by simp at h
  | f + 1, g + 1, a :: l, hf, hg => by
    simp only [signs]
    cases ho : first (a :: l) with
    | none => rfl
    | some x =>
      obtain ⟨c, n⟩ := x
      have := first_some _ _ _ ho
      have hl : ((a :: l).drop n).length ≤ l.length := by rw [List.length_drop, List.length_cons]; omega
      simp only [List.length_cons] at hf hg
      simp only
      rw [signs_fuel f g _ (Nat.le_trans hl (by omega)) (Nat.le_trans hl (by omega))]
/-- One sign more. -/
theorem isText_step (l : List UInt8) (h : l ≠ []) : isText l = match first l with | none => false | some (c, n) => plain c && isText (l.drop n) := by
  match l, h with
  | a :: l, _ =>
    unfold isText
    rw [List.length_cons]
    simp only [signs]
    cases ho : first (a :: l) with
    | none => rfl
    | some x =>
      obtain ⟨c, n⟩ := x
      have := first_some _ _ _ ho
      have hl : ((a :: l).drop n).length ≤ l.length := by rw [List.length_drop, List.length_cons]; omega
      simp only
      rw [signs_fuel l.length _ _ hl (Nat.le_refl _)]
      cases plain c <;> simp
end Go.Proofs.YtpjkbamkaicoiaaDoor.GlyP
end
