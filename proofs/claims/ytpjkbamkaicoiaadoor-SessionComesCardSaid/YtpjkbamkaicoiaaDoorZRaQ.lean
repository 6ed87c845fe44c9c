/- Contracts of functions of this translation, and what they come to; what is not used is left out. -/
import Derived.Test.YtpjkbamkaicoiaaDoorZRefJ
import Derived.Test.YtpjkbamkaicoiaaDoorZRefF
import Derived.Test.YtpjkbamkaicoiaaDoorZGlyA
import Derived.Test.YtpjkbamkaicoiaaDoorZGlyP
import Derived.Test.YtpjkbamkaicoiaaDoorZUtil
import Derived.Test.YtpjkbamkaicoiaaDoorZJidP
import Derived.Test.YtpjkbamkaicoiaaDoorZStrs
import Derived.Test.YtpjkbamkaicoiaaDoorZShelf
import Derived.Test.YtpjkbamkaicoiaaDoorZRaP
import Derived.Test.YtpjkbamkaicoiaaDoorZRa2
import Derived.Test.YtpjkbamkaicoiaaDoorZRa1
import Derived.Test.YtpjkbamkaicoiaaDoorZRa0
import Derived.Test.YtpjkbamkaicoiaaDoorZg0

section
/- wharfref01.Signs, wharfref03.text, in, first, Norm, as printed: what they come to. Plain. -/
set_option linter.unusedVariables false
set_option linter.unusedSimpArgs false
namespace Go.Proofs.YtpjkbamkaicoiaaDoor.RaP
open Go.RowKit GlyP Go.Proofs.YtpjkbamkaicoiaaDoorW.PrintWords Go.Proofs.YtpjkbamkaicoiaaDoorW.PrintLast Go.Proofs.YtpjkbamkaicoiaaDoorW.PrintMore Ra JidP

theorem bt_get (s : ByteArray) (i : Nat) (h : i < s.size) (j : Int) (hj : j = i) : bt s j = ((s[i].toNat : Nat) : Int) := by
  subst hj; unfold bt; rw [dif_pos (by simpa using h)]; rfl
theorem getLast_at (l : List UInt8) (h : 0 < l.length) : l.getLast? = some (l[l.length - 1]'(by omega)) := by
  rw [List.getLast?_eq_getElem?, List.getElem?_eq_getElem (by omega)]
end Go.Proofs.YtpjkbamkaicoiaaDoor.RaP
end
