/- Contracts of functions of this translation, and what they come to; what is not used is left out. -/

section
/- What the escapes come to, as plain functions on lists of bytes: no program in sight. -/
namespace Go.Proofs.YtpjkbamkaicoiaaDoor.EscP

/-- The bytes that are escaped. -/
def spB : List UInt8 := [32, 34, 38, 39, 47, 58, 60, 62, 64, 92]
/-- A digit below 16. -/
def hexd (n : UInt8) : UInt8 := if n < 10 then 48 + n else 87 + n
/-- A byte's escape. -/
def seq3 (c : UInt8) : List UInt8 := [92, hexd (c >>> 4), hexd (c &&& 15)]
/-- The byte for which the escape at the front stands, looked for from place k of the table on. -/
def begF (l : List UInt8) (k : Nat) : Option UInt8 := (spB.drop k).find? fun c => (seq3 c).isPrefixOf l
/-- The byte for which the escape at the front stands. -/
def beg (l : List UInt8) : Option UInt8 := begF l 0
/-- A byte that may not stand. -/
def isSp (c : UInt8) : Bool := (spB.take 9).contains c
/-- A text, escaped. -/
def escG : List UInt8 → List UInt8
  | [] => []
  | c :: l => (if (beg (c :: l)).isSome || isSp c then seq3 c else [c]) ++ escG l
/-- May the text not be escaped? -/
def bad (l : List UInt8) : Bool := l.isEmpty || l.head? == some 32 || l.getLast? == some 32
/-- A text, unescaped; 'start': this is its beginning; with so many steps at most. -/
def unG : Nat → Bool → List UInt8 → List UInt8
  | 0, _, _ => []
  | _ + 1, _, [] => []
  | k + 1, start, c :: l =>
    match beg (c :: l) with
    | some x => if x != 32 || (!start && decide (3 < (c :: l).length)) then x :: unG k false (l.drop 2) else c :: unG k false l
    | none => c :: unG k false l
def un (l : List UInt8) : List UInt8 := unG l.length true l

end Go.Proofs.YtpjkbamkaicoiaaDoor.EscP
end
