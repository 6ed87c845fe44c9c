/- Contracts of functions of this translation, and what they come to; what is not used is left out. -/
import Derived.Test.YtpjkbamkaicoiaaDoorPUtil
import Derived.Test.YtpjkbamkaicoiaaDoorPEscB
import Derived.Test.YtpjkbamkaicoiaaDoorPEscA
import Derived.Test.YtpjkbamkaicoiaaDoorPEscP
import Derived.Test.YtpjkbamkaicoiaaDoorPShelf
import Derived.Test.YtpjkbamkaicoiaaDoorPBld
import Derived.Test.YtpjkbamkaicoiaaDoorPHanA
import Derived.Test.YtpjkbamkaicoiaaDoorPGlyA
import Derived.Test.YtpjkbamkaicoiaaDoorPGlyP
import Derived.Test.YtpjkbamkaicoiaaDoorPRep
import Derived.Test.YtpjkbamkaicoiaaDoorPStrs

section
/- Names, as plain functions on lists of bytes. No program in sight. -/
set_option linter.unusedVariables false
set_option linter.unusedSimpArgs false
namespace Go.Proofs.YtpjkbamkaicoiaaDoor.HanP
open Gly Rep Han EscP

def digitB (c : UInt8) : Bool := decide (48 ≤ c) && decide (c ≤ 57)
def letterB (c : UInt8) : Bool := (decide (97 ≤ c) && decide (c ≤ 122)) || (decide (65 ≤ c) && decide (c ≤ 90))
/-- Is a text a number? -/
def numB (l : List UInt8) : Bool := decide (5 ≤ l.length) && (decide (l.length ≤ 9) && (l.head? != some 48 && l.all digitB))
/-- What may be in a screen name. -/
def okc (c : UInt8) : Bool := c == 64 || (c == 32 || (c == 46 || (letterB c || digitB c)))
/-- Is a text a screen name? -/
def snB (l : List UInt8) : Bool := decide (3 ≤ (norm l).length) && (decide (l.length ≤ 16) && ((match l.head? with | some c => letterB c | none => false) && (l.getLast? != some 32 && (l.getLast? != some 64 && (l.all okc && decide (l.count 64 ≤ 1))))))
def isName (l : List UInt8) : Bool := numB l || snB l

theorem low_facts : ∀ n : Fin 256, (low (UInt8.ofNat n.val) = 32 ↔ UInt8.ofNat n.val = 32) ∧ (low (UInt8.ofNat n.val) = 64 ↔ UInt8.ofNat n.val = 64) ∧ low (low (UInt8.ofNat n.val)) = low (UInt8.ofNat n.val) ∧ okc (low (UInt8.ofNat n.val)) = okc (UInt8.ofNat n.val) ∧
    letterB (low (UInt8.ofNat n.val)) = letterB (UInt8.ofNat n.val) ∧ (digitB (UInt8.ofNat n.val) = true → low (UInt8.ofNat n.val) = UInt8.ofNat n.val ∧ UInt8.ofNat n.val ≠ 32) ∧ (letterB (UInt8.ofNat n.val) = true → UInt8.ofNat n.val ≠ 32) ∧
    ¬ (65 ≤ low (UInt8.ofNat n.val) ∧ low (UInt8.ofNat n.val) ≤ 90) := by decide +kernel
theorem low_at (c : UInt8) : (low c = 32 ↔ c = 32) ∧ (low c = 64 ↔ c = 64) ∧ low (low c) = low c ∧ okc (low c) = okc c ∧ letterB (low c) = letterB c ∧ (digitB c = true → low c = c ∧ c ≠ 32) ∧ (letterB c = true → c ≠ 32) ∧ ¬ (65 ≤ low c ∧ low c ≤ 90) := by
  have := low_facts ⟨c.toNat, c.toNat_lt⟩
  simpa using this

theorem norm_cons (c : UInt8) (l : List UInt8) : norm (c :: l) = if c = 32 then norm l else low c :: norm l := by
  unfold norm without
  rw [List.map_cons, List.filter_cons]
  by_cases h : c = 32
  · rw [if_pos h, if_neg (by rw [bne_iff_ne]; intro hn; exact hn ((low_at c).1.mpr h))]
  · rw [if_neg h, if_pos (by rw [bne_iff_ne]; intro hn; exact h ((low_at c).1.mp hn))]
theorem norm_swap (l : List UInt8) : (without 32 l).map low = norm l := by
  induction l with
  | nil => rfl
  | cons c l ih =>
    rw [norm_cons]
    unfold without at ih ⊢
    rw [List.filter_cons]
    by_cases h : c = 32
    · rw [if_pos h, if_neg (by rw [bne_iff_ne]; exact fun hn => hn h), ih]
    · rw [if_neg h, if_pos (by rw [bne_iff_ne]; exact h), List.map_cons, ih]
end Go.Proofs.YtpjkbamkaicoiaaDoor.HanP
end
