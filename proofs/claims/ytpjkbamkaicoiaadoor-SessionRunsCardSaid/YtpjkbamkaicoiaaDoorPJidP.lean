/- Contracts of functions of this translation, and what they come to; what is not used is left out. -/
import Derived.Test.YtpjkbamkaicoiaaDoorPStrs
import Derived.Test.YtpjkbamkaicoiaaDoorPShelf
import Derived.Test.YtpjkbamkaicoiaaDoorPUtil
import Derived.Test.YtpjkbamkaicoiaaDoorPGlyA
import Derived.Test.YtpjkbamkaicoiaaDoorPGlyP

section
/- Addresses as plain functions on lists of bytes: no program in sight. -/
namespace Go.Proofs.YtpjkbamkaicoiaaDoor.JidP
open GlyP Gly Strs

/-- An address: its three parts. -/
structure J where
  n : List UInt8
  d : List UInt8
  r : List UInt8
deriving DecidableEq

/-- Without a point at its end. -/
def trimPoint (l : List UInt8) : List UInt8 := if l.getLast? = some 46 then l.dropLast else l
def norm (j : J) : J := ⟨j.n.map low, trimPoint (j.d.map low), j.r⟩
def isPart (l : List UInt8) : Bool := decide (l.length ≤ 1023) && (isText l && l.all fun c => !(decide (c < 32) || c == 127))
def nodeBad : List UInt8 := [32, 34, 38, 39, 47, 58, 60, 62, 64]
def isNode (l : List UInt8) : Bool := l.all fun c => !(nodeBad.contains c)
def labelB (c : UInt8) : Bool := (decide (97 ≤ c) && decide (c ≤ 122)) || (decide (48 ≤ c) && decide (c ≤ 57)) || c == 45
def isLabel (l : List UInt8) : Bool := l.all labelB && !l.isEmpty
def ok (j : J) : Bool := norm j == j && (isPart j.n && (isPart j.d && (isPart j.r && (isNode j.n && (pieces 46 j.d).all isLabel))))
/-- An address's text. -/
def put (j : J) : List UInt8 := (if j.n = [] then j.d else j.n ++ [64] ++ j.d) ++ (if j.r = [] then [] else 47 :: j.r)
end Go.Proofs.YtpjkbamkaicoiaaDoor.JidP
end
