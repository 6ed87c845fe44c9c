/- Contracts of functions of this translation, and what they come to; what is not used is left out. -/
import Derived.Test.YtpjkbamkaicoiaaDoorPg7p1
import Derived.Test.YtpjkbamkaicoiaaDoorPg7p0
import Derived.Test.YtpjkbamkaicoiaaDoorPSesE1
import Derived.Test.YtpjkbamkaicoiaaDoorPSesE0
import Derived.Test.YtpjkbamkaicoiaaDoorPg1
import Derived.Test.YtpjkbamkaicoiaaDoorPg5
import Derived.Test.YtpjkbamkaicoiaaDoorPCls
import Derived.Test.YtpjkbamkaicoiaaDoorPUtil
import Derived.Test.YtpjkbamkaicoiaaDoorPSoft
import Derived.Test.YtpjkbamkaicoiaaDoorPHanS
import Derived.Test.YtpjkbamkaicoiaaDoorPHanR
import Derived.Test.YtpjkbamkaicoiaaDoorPHanQ
import Derived.Test.YtpjkbamkaicoiaaDoorPRaQ
import Derived.Test.YtpjkbamkaicoiaaDoorPRefJ
import Derived.Test.YtpjkbamkaicoiaaDoorPRefF
import Derived.Test.YtpjkbamkaicoiaaDoorPGlyA
import Derived.Test.YtpjkbamkaicoiaaDoorPGlyP
import Derived.Test.YtpjkbamkaicoiaaDoorPJidP
import Derived.Test.YtpjkbamkaicoiaaDoorPStrs
import Derived.Test.YtpjkbamkaicoiaaDoorPShelf
import Derived.Test.YtpjkbamkaicoiaaDoorPRaP
import Derived.Test.YtpjkbamkaicoiaaDoorPRa2
import Derived.Test.YtpjkbamkaicoiaaDoorPRa1
import Derived.Test.YtpjkbamkaicoiaaDoorPRa0
import Derived.Test.YtpjkbamkaicoiaaDoorPg0
import Derived.Test.YtpjkbamkaicoiaaDoorPHanP
import Derived.Test.YtpjkbamkaicoiaaDoorPEscB
import Derived.Test.YtpjkbamkaicoiaaDoorPEscA
import Derived.Test.YtpjkbamkaicoiaaDoorPEscP
import Derived.Test.YtpjkbamkaicoiaaDoorPBld
import Derived.Test.YtpjkbamkaicoiaaDoorPHanA
import Derived.Test.YtpjkbamkaicoiaaDoorPRep
import Derived.Test.YtpjkbamkaicoiaaDoorPRc3
import Derived.Test.YtpjkbamkaicoiaaDoorPRc2
import Derived.Test.YtpjkbamkaicoiaaDoorPRc1
import Derived.Test.YtpjkbamkaicoiaaDoorPRc0
import Derived.Test.YtpjkbamkaicoiaaDoorPHanF
import Derived.Test.YtpjkbamkaicoiaaDoorPg4
import Derived.Test.YtpjkbamkaicoiaaDoorPg6
import Derived.Test.YtpjkbamkaicoiaaDoorPBox
import Derived.Test.YtpjkbamkaicoiaaDoorPg3

section
/- What is known of the calls that the law SessionStands makes. (Printed by gen_sest.py.) -/
set_option linter.unusedVariables false
set_option linter.unusedSimpArgs false
namespace Go.Proofs.YtpjkbamkaicoiaaDoor.Ses
open Go.RowKit Go.Proofs.YtpjkbamkaicoiaaDoor.E
abbrev Ext := Nat → Option Go.Proofs.YtpjkbamkaicoiaaDoor.E.Place
def ob : Ora := .bit true
def oc : Ora := .bit false
def KP (f : FuncId) (a : Array Value) : Option Value := match Nat.beq f 8 with
  | true => match a.toList with
    | [] => some (.bool true)
    | _ => none
  | false => none
theorem mixed : Tryd.prog.follows .mixedOrders = true := by kernel_rfl
theorem KP_ok (f : FuncId) (a : Array Value) (v : Value) (h : KP f a = some v) (w : World) : Calls Tryd.prog f a w fun e w' => e = .returned v ∧ Below w.heap.size w w' := by
  unfold KP at h
  split at h
  · rename_i hf
    have hf : f = 8 := Nat.eq_of_beq_eq_true hf
    subst hf
    split at h <;> try (cases h; done)
    rename_i ha
    simp only [Option.some.injEq] at h
    subst h
    obtain rfl : a = #[] := Array.ext' ha
    exact live_any w
  · cases h
structure Kn (ext : Ext) (w : World) (ph : Int) (n pw : ByteArray) (st tm ct he sa cd : Int) (kd : Int) (nk : Int) (nn nt nd : ByteArray) (nc ns ni nm : Int) (nok : Bool) (code : Int) (W : Int) (D : ByteArray) : Prop where
  h12 : ∀ Fr, Fr = protX w ext → PureC Tryd.prog Fr 12 #[.agg #[.int .i64 nk, .string nn, .string nt, .string nd, .int .i64 nc, .int .i64 ns, .int .i64 ni, .int .i64 nm, .bool nok, .chan (some 64), .chan (some 65)], .int .i64 12000] (.int .i64 W)
  h56 : ∀ Fr, Fr = protX w ext → PureC Tryd.prog Fr 56 #[.agg #[.int .i64 nk, .string nn, .string nt, .string nd, .int .i64 nc, .int .i64 ns, .int .i64 ni, .int .i64 nm, .bool nok, .chan (some 64), .chan (some 65)], .agg #[.int .i64 nk, .string nn, .string nt, .string nd, .int .i64 nc, .int .i64 ns, .int .i64 ni, .int .i64 nm, .bool nok, .chan (some 64), .chan (some 65)]] (.bool true)
  h27 : (decide (IntKind.wrap IntKind.i64 ((↑(ByteArray.size n) : Int) + (↑(ByteArray.size pw) : Int)) > (12000 : Int))) = false → (!decide (IntKind.wrap IntKind.i64 ((0 : Int) + W) ≤ (12000 : Int))) = false → ∀ Fr, PureC Tryd.prog Fr 27 #[.string nd, .string pw, .string tailS] (.string D)
  h11 : (decide (IntKind.wrap IntKind.i64 ((↑(ByteArray.size n) : Int) + (↑(ByteArray.size pw) : Int)) > (12000 : Int))) = false → (!decide (IntKind.wrap IntKind.i64 ((0 : Int) + W) ≤ (12000 : Int))) = false → ∀ Fr, PureC Tryd.prog Fr 11 #[.string nd, .string pw] (.string D)
  h28 : (decide (IntKind.wrap IntKind.i64 ((↑(ByteArray.size n) : Int) + (↑(ByteArray.size pw) : Int)) > (12000 : Int))) = false → (!decide (IntKind.wrap IntKind.i64 ((0 : Int) + W) ≤ (12000 : Int))) = false → ∀ Fr, PureC Tryd.prog Fr 28 #[.string nn, .string n] (.bool ((Han.normB nn).toList == (Han.normB n).toList))
  h53 : (decide (IntKind.wrap IntKind.i64 ((↑(ByteArray.size n) : Int) + (↑(ByteArray.size pw) : Int)) > (12000 : Int))) = false → (!decide (IntKind.wrap IntKind.i64 ((0 : Int) + W) ≤ (12000 : Int))) = false → ∀ Fr, PureC Tryd.prog Fr 53 #[.string nn] (.string (Han.normB nn))
  h54 : (decide (IntKind.wrap IntKind.i64 ((↑(ByteArray.size n) : Int) + (↑(ByteArray.size pw) : Int)) > (12000 : Int))) = false → (!decide (IntKind.wrap IntKind.i64 ((0 : Int) + W) ≤ (12000 : Int))) = false → ∀ Fr, PureC Tryd.prog Fr 53 #[.string n] (.string (Han.normB n))
end Go.Proofs.YtpjkbamkaicoiaaDoor.Ses
end
