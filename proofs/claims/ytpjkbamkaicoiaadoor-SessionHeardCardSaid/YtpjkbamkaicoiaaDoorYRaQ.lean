/- Contracts of functions of this translation, and what they come to; what is not used is left out. -/
import Derived.Test.YtpjkbamkaicoiaaDoorYRefJ
import Derived.Test.YtpjkbamkaicoiaaDoorYRefF
import Derived.Test.YtpjkbamkaicoiaaDoorYGlyA
import Derived.Test.YtpjkbamkaicoiaaDoorYGlyP
import Derived.Test.YtpjkbamkaicoiaaDoorYUtil
import Derived.Test.YtpjkbamkaicoiaaDoorYJidP
import Derived.Test.YtpjkbamkaicoiaaDoorYStrs
import Derived.Test.YtpjkbamkaicoiaaDoorYShelf
import Derived.Test.YtpjkbamkaicoiaaDoorYRaP
import Derived.Test.YtpjkbamkaicoiaaDoorYRa2
import Derived.Test.YtpjkbamkaicoiaaDoorYRa1
import Derived.Test.YtpjkbamkaicoiaaDoorYRa0
import Derived.Test.YtpjkbamkaicoiaaDoorYg0

section
/- wharfref01.Signs, wharfref03.text, in, first, Norm, as printed: what they come to. Plain. -/
set_option linter.unusedVariables false
set_option linter.unusedSimpArgs false
namespace Go.Proofs.YtpjkbamkaicoiaaDoor.RaP
open Go.RowKit GlyP Go.Proofs.YtpjkbamkaicoiaaDoorW.PrintWords Go.Proofs.YtpjkbamkaicoiaaDoorW.PrintLast Go.Proofs.YtpjkbamkaicoiaaDoorW.PrintMore Ra JidP

theorem bt_get (s : ByteArray) (i : Nat) (h : i < s.size) (j : Int) (hj : j = i) : bt s j = ((s[i].toNat : Nat) : Int) := by
  subst hj; unfold bt; rw [dif_pos (by simpa using h)]; rfl
theorem getLast_at (l : List UInt8) (h : 0 < l.length) : l.getLast? = some (l[l.length - 1]'(by omega)) := by
  rw [List.getLast?_eq_getElem?, List.getElem?_eq_getElem (by omega)]
end Go.Proofs.YtpjkbamkaicoiaaDoor.RaP
end
