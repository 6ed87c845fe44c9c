/- Contracts of functions of this translation, and what they come to; what is not used is left out. -/
import Derived.Test.YtpjkbamkaicoiaaDoorQRefJ
import Derived.Test.YtpjkbamkaicoiaaDoorQRefF
import Derived.Test.YtpjkbamkaicoiaaDoorQGlyA
import Derived.Test.YtpjkbamkaicoiaaDoorQGlyP
import Derived.Test.YtpjkbamkaicoiaaDoorQUtil
import Derived.Test.YtpjkbamkaicoiaaDoorQJidP
import Derived.Test.YtpjkbamkaicoiaaDoorQStrs
import Derived.Test.YtpjkbamkaicoiaaDoorQShelf
import Derived.Test.YtpjkbamkaicoiaaDoorQRaP
import Derived.Test.YtpjkbamkaicoiaaDoorQRa2
import Derived.Test.YtpjkbamkaicoiaaDoorQRa1
import Derived.Test.YtpjkbamkaicoiaaDoorQRa0
import Derived.Test.YtpjkbamkaicoiaaDoorQg0

section
/- wharfref01.Signs, wharfref03.text, in, first, Norm, as printed: what they come to. Plain. -/
set_option linter.unusedVariables false
set_option linter.unusedSimpArgs false
namespace Go.Proofs.YtpjkbamkaicoiaaDoor.RaP
open Go.RowKit GlyP Go.Proofs.YtpjkbamkaicoiaaDoorW.PrintWords Go.Proofs.YtpjkbamkaicoiaaDoorW.PrintLast Go.Proofs.YtpjkbamkaicoiaaDoorW.PrintMore Ra JidP

theorem plain_eq (c : Nat) : wharfref01_Plain.f (c : Int) = some (plain c) := by
  unfold wharfref01_Plain.f plain
  by_cases h9 : c = 9
  · subst h9; rfl
  · rw [if_neg (by omega)]
    by_cases h10 : c = 10
    · subst h10; rfl
    · rw [if_neg (by omega)]
      by_cases h13 : c = 13
      · subst h13; rfl
      · rw [if_neg (by omega)]
        have e1 : (c == 9) = false := by simpa using h9
        have e2 : (c == 10) = false := by simpa using h10
        have e3 : (c == 13) = false := by simpa using h13
        rw [e1, e2, e3]
        simp only [Bool.false_or]
        by_cases h32 : 32 ≤ c
        · rw [if_pos (by omega), decide_eq_true h32]
          by_cases h4 : c = 65534
          · subst h4; rfl
          · rw [if_neg (by omega)]
            have e4 : (c != 65534) = true := by simpa using h4
            have e5 : ((c : Int) != 65535) = (c != 65535) := by
              rw [Bool.eq_iff_iff]; simp only [bne_iff_ne]; omega
            rw [e4, e5]; rfl
        · rw [if_neg (by omega), decide_eq_false h32]; rfl

theorem bt_get (s : ByteArray) (i : Nat) (h : i < s.size) (j : Int) (hj : j = i) : bt s j = ((s[i].toNat : Nat) : Int) := by
  subst hj; unfold bt; rw [dif_pos (by simpa using h)]; rfl
/-- The place of a byte; -1: it is not there. -/
def place (c : UInt8) (l : List UInt8) : Int := if l.contains c then ((Strs.foreB c l).length : Int) else -1
theorem getLast_at (l : List UInt8) (h : 0 < l.length) : l.getLast? = some (l[l.length - 1]'(by omega)) := by
  rw [List.getLast?_eq_getElem?, List.getElem?_eq_getElem (by omega)]
end Go.Proofs.YtpjkbamkaicoiaaDoor.RaP
end
