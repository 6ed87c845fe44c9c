/- Contracts of functions of this translation, and what they come to; what is not used is left out. -/
import Derived.Lib.DecodeN

section
/- The signs of a text, as plain functions on lists of bytes: no program in sight. -/
set_option linter.unusedVariables false
namespace Go.Proofs.YtofdiilfedjhkaaDoor.GlyP
open Go.Lib

/-- Byte i of a text (0 beyond its end). -/
def by_ (l : List UInt8) (i : Nat) : Nat := (l.getD i 0).toNat
/-- The model's decoding at the front. -/
def dec (l : List UInt8) : Nat × Nat := decodeN l.length (by_ l 0) (by_ l 1) (by_ l 2) (by_ l 3)
/-- The sign at the front, and how many bytes it has. -/
def first (l : List UInt8) : Option (Nat × Nat) := if l.length = 0 then none else if (dec l).1 = 65533 ∧ (dec l).2 = 1 then none else some (dec l)
/-- Is a sign plain? -/
def plain (c : Nat) : Bool := c == 9 || c == 10 || c == 13 || (decide (32 ≤ c) && c != 65534 && c != 65535)
end Go.Proofs.YtofdiilfedjhkaaDoor.GlyP
end
