/- MD5 and SHA-1, plain: words of bytes, the steps, the blocks, the padding; digits. -/
set_option linter.unusedVariables false
set_option linter.unusedSimpArgs false
namespace Go.Proofs.Ytcgopnknnolhkaa.Dg
def be4 (w : UInt32) : List UInt8 := [(w >>> 24).toUInt8, (w >>> 16).toUInt8, (w >>> 8).toUInt8, w.toUInt8]
def wBE (a b c d : UInt8) : UInt32 := a.toUInt32 <<< 24 ||| b.toUInt32 <<< 16 ||| c.toUInt32 <<< 8 ||| d.toUInt32
def rev (x : UInt32) : UInt32 := (((x >>> 8 &&& (16711935 : UInt32)) ||| ((x &&& (16711935 : UInt32)) <<< 8)) >>> 16) ||| (((x >>> 8 &&& (16711935 : UInt32)) ||| ((x &&& (16711935 : UInt32)) <<< 8)) <<< 16)
def SINES : List UInt32 := [0xd76aa478, 0xe8c7b756, 0x242070db, 0xc1bdceee, 0xf57c0faf, 0x4787c62a, 0xa8304613, 0xfd469501, 0x698098d8, 0x8b44f7af, 0xffff5bb1, 0x895cd7be, 0x6b901122, 0xfd987193, 0xa679438e, 0x49b40821, 0xf61e2562, 0xc040b340, 0x265e5a51, 0xe9b6c7aa, 0xd62f105d, 0x02441453, 0xd8a1e681, 0xe7d3fbc8, 0x21e1cde6, 0xc33707d6, 0xf4d50d87, 0x455a14ed, 0xa9e3e905, 0xfcefa3f8, 0x676f02d9, 0x8d2a4c8a, 0xfffa3942, 0x8771f681, 0x6d9d6122, 0xfde5380c, 0xa4beea44, 0x4bdecfa9, 0xf6bb4b60, 0xbebfbc70, 0x289b7ec6, 0xeaa127fa, 0xd4ef3085, 0x04881d05, 0xd9d4d039, 0xe6db99e5, 0x1fa27cf8, 0xc4ac5665, 0xf4292244, 0x432aff97, 0xab9423a7, 0xfc93a039, 0x655b59c3, 0x8f0ccc92, 0xffeff47d, 0x85845dd1, 0x6fa87e4f, 0xfe2ce6e0, 0xa3014314, 0x4e0811a1, 0xf7537e82, 0xbd3af235, 0x2ad7d2bb, 0xeb86d391]
theorem bits32 {p : Nat → Prop} (h : p 0 ∧ p 1 ∧ p 2 ∧ p 3 ∧ p 4 ∧ p 5 ∧ p 6 ∧ p 7 ∧ p 8 ∧ p 9 ∧ p 10 ∧ p 11 ∧ p 12 ∧ p 13 ∧ p 14 ∧ p 15 ∧ p 16 ∧ p 17 ∧ p 18 ∧ p 19 ∧ p 20 ∧ p 21 ∧ p 22 ∧ p 23 ∧ p 24 ∧ p 25 ∧ p 26 ∧ p 27 ∧ p 28 ∧ p 29 ∧ p 30 ∧ p 31) : ∀ i, i < 32 → p i := by
  intro i hi
  obtain ⟨h0, h1, h2, h3, h4, h5, h6, h7, h8, h9, h10, h11, h12, h13, h14, h15, h16, h17, h18, h19, h20, h21, h22, h23, h24, h25, h26, h27, h28, h29, h30, h31⟩ := h
  match i with
  | 0 => exact h0 | 1 => exact h1 | 2 => exact h2 | 3 => exact h3 | 4 => exact h4 | 5 => exact h5 | 6 => exact h6 | 7 => exact h7
  | 8 => exact h8 | 9 => exact h9 | 10 => exact h10 | 11 => exact h11 | 12 => exact h12 | 13 => exact h13 | 14 => exact h14 | 15 => exact h15
  | 16 => exact h16 | 17 => exact h17 | 18 => exact h18 | 19 => exact h19 | 20 => exact h20 | 21 => exact h21 | 22 => exact h22 | 23 => exact h23
  | 24 => exact h24 | 25 => exact h25 | 26 => exact h26 | 27 => exact h27 | 28 => exact h28 | 29 => exact h29 | 30 => exact h30 | 31 => exact h31
  | n + 32 => omega
theorem rev_wBE (a b c d : UInt8) : rev (wBE a b c d) = wBE d c b a := by
  apply UInt32.eq_of_toBitVec_eq
  apply BitVec.eq_of_getLsbD_eq
  apply bits32
  unfold rev wBE
  refine ⟨?_, ?_, ?_, ?_, ?_, ?_, ?_, ?_, ?_, ?_, ?_, ?_, ?_, ?_, ?_, ?_, ?_, ?_, ?_, ?_, ?_, ?_, ?_, ?_, ?_, ?_, ?_, ?_, ?_, ?_, ?_, ?_⟩ <;> simp [BitVec.getLsbD_or, BitVec.getLsbD_and, BitVec.getLsbD_shiftLeft, BitVec.getLsbD_ushiftRight, BitVec.getLsbD_setWidth, BitVec.getLsbD_of_ge]
theorem be4_rev (w : UInt32) : be4 (rev w) = (be4 w).reverse := by
  unfold be4 rev
  simp only [List.reverse_cons, List.reverse_nil, List.nil_append, List.cons_append, List.cons.injEq, and_true]
  refine ⟨?_, ?_, ?_, ?_⟩ <;>
  · apply UInt8.eq_of_toBitVec_eq
    apply BitVec.eq_of_getLsbD_eq
    have := @bits32
    intro i hi
    match i with
    | 0 | 1 | 2 | 3 | 4 | 5 | 6 | 7 => simp [BitVec.getLsbD_or, BitVec.getLsbD_and, BitVec.getLsbD_shiftLeft, BitVec.getLsbD_ushiftRight, BitVec.getLsbD_setWidth, BitVec.getLsbD_of_ge]
    | n + 8 => omega
theorem F0 (b c d : UInt32) : d ^^^ (b &&& (c ^^^ d)) = (b &&& c) ||| (~~~b &&& d) := by
  apply UInt32.eq_of_toBitVec_eq
  apply BitVec.eq_of_getLsbD_eq
  intro i hi
  simp only [UInt32.toBitVec_xor, UInt32.toBitVec_and, UInt32.toBitVec_or, UInt32.toBitVec_not, BitVec.getLsbD_xor, BitVec.getLsbD_and, BitVec.getLsbD_or, BitVec.getLsbD_not, hi, decide_true, Bool.true_and]
  cases b.toBitVec.getLsbD i <;> cases c.toBitVec.getLsbD i <;> cases d.toBitVec.getLsbD i <;> rfl
theorem F1 (b c d : UInt32) : c ^^^ (d &&& (b ^^^ c)) = (d &&& b) ||| (~~~d &&& c) := by
  apply UInt32.eq_of_toBitVec_eq
  apply BitVec.eq_of_getLsbD_eq
  intro i hi
  simp only [UInt32.toBitVec_xor, UInt32.toBitVec_and, UInt32.toBitVec_or, UInt32.toBitVec_not, BitVec.getLsbD_xor, BitVec.getLsbD_and, BitVec.getLsbD_or, BitVec.getLsbD_not, hi, decide_true, Bool.true_and]
  cases b.toBitVec.getLsbD i <;> cases c.toBitVec.getLsbD i <;> cases d.toBitVec.getLsbD i <;> rfl
theorem F2 (b c d : UInt32) : (b &&& c) ||| (d &&& (b ||| c)) = (b &&& c) ||| (b &&& d) ||| (c &&& d) := by
  apply UInt32.eq_of_toBitVec_eq
  apply BitVec.eq_of_getLsbD_eq
  intro i hi
  simp only [UInt32.toBitVec_xor, UInt32.toBitVec_and, UInt32.toBitVec_or, UInt32.toBitVec_not, BitVec.getLsbD_xor, BitVec.getLsbD_and, BitVec.getLsbD_or, BitVec.getLsbD_not, hi, decide_true, Bool.true_and]
  cases b.toBitVec.getLsbD i <;> cases c.toBitVec.getLsbD i <;> cases d.toBitVec.getLsbD i <;> rfl

def wLE (a b c d : UInt8) : UInt32 := wBE d c b a
def rotl (x : UInt32) (k : Nat) : UInt32 := x <<< UInt32.ofNat k ||| x >>> UInt32.ofNat (32 - k)
/-- MD5's four words. -/
structure Q where
  a : UInt32
  b : UInt32
  c : UInt32
  d : UInt32
def mixF (i : Nat) (b c d : UInt32) : UInt32 := if i < 16 then d ^^^ (b &&& (c ^^^ d)) else if i < 32 then c ^^^ (d &&& (b ^^^ c)) else if i < 48 then b ^^^ c ^^^ d else c ^^^ (b ||| ~~~d)
def mixG (i : Nat) : Nat := if i < 16 then i else if i < 32 then (5 * i + 1) % 16 else if i < 48 then (3 * i + 5) % 16 else 7 * i % 16
def trn (i : Nat) : Nat := [7, 12, 17, 22, 5, 9, 14, 20, 4, 11, 16, 23, 6, 10, 15, 21].getD (i / 16 * 4 + i % 4) 0
def sin (i : Nat) : UInt32 := SINES.getD i 0
def step5 (m : Nat → UInt32) (q : Q) (i : Nat) : Q := ⟨q.d, q.b + rotl (q.a + mixF i q.b q.c q.d + sin i + m (mixG i)) (trn i), q.b, q.c⟩
def run5 (m : Nat → UInt32) (q : Q) (n : Nat) : Q := (List.range n).foldl (step5 m) q
def blk5 (m : Nat → UInt32) (q : Q) : Q := ⟨q.a + (run5 m q 64).a, q.b + (run5 m q 64).b, q.c + (run5 m q 64).c, q.d + (run5 m q 64).d⟩
theorem run5_next (m : Nat → UInt32) (q : Q) (n : Nat) : run5 m q (n + 1) = step5 m (run5 m q n) n := by unfold run5; rw [List.range_succ, List.foldl_append]; rfl
/-- The word at a place. -/
def wdLE (l : List UInt8) (o : Nat) : UInt32 := wLE (l.getD o 0) (l.getD (o + 1) 0) (l.getD (o + 2) 0) (l.getD (o + 3) 0)
def wdBE (l : List UInt8) (o : Nat) : UInt32 := wBE (l.getD o 0) (l.getD (o + 1) 0) (l.getD (o + 2) 0) (l.getD (o + 3) 0)
def q0 : Q := ⟨0x67452301, 0xefcdab89, 0x98badcfe, 0x10325476⟩
def rounds5 (l : List UInt8) (n : Nat) : Q := (List.range n).foldl (fun q j => blk5 (fun i => wdLE l (64 * j + 4 * i)) q) q0
theorem rounds5_next (l : List UInt8) (n : Nat) : rounds5 l (n + 1) = blk5 (fun i => wdLE l (64 * n + 4 * i)) (rounds5 l n) := by unfold rounds5; rw [List.range_succ, List.foldl_append]; rfl
/-- The padding. -/
def padN (n : Nat) : Nat := (119 - n % 64) % 64
def len8 (n : Nat) : List UInt8 := (be4 (UInt32.ofNat (n * 8 / 4294967296))) ++ be4 (UInt32.ofNat (n * 8))
def fill (l : List UInt8) (least : Bool) : List UInt8 := l ++ [128] ++ List.replicate (padN l.length) 0 ++ (if least then (len8 l.length).reverse else len8 l.length)
theorem len8_length (n : Nat) : (len8 n).length = 8 := rfl
theorem fill_length (l : List UInt8) (b : Bool) : (fill l b).length = 64 * ((l.length + 72) / 64) := by
  unfold fill padN
  have h : ∀ c : Bool, (if c then (len8 l.length).reverse else len8 l.length).length = 8 := fun c => by cases c <;> rfl
  simp only [List.length_append, List.length_replicate, h, List.length_cons, List.length_nil]
  omega
def md5 (l : List UInt8) : List UInt8 :=
  let q := rounds5 (fill l true) ((fill l true).length / 64)
  (be4 q.a).reverse ++ (be4 q.b).reverse ++ (be4 q.c).reverse ++ (be4 q.d).reverse
/-- SHA-1's five words. -/
structure V where
  a : UInt32
  b : UInt32
  c : UInt32
  d : UInt32
  e : UInt32
def stF (t : Nat) (b c d : UInt32) : UInt32 := if t < 20 then d ^^^ (b &&& (c ^^^ d)) else if t < 40 then b ^^^ c ^^^ d else if t < 60 then (b &&& c) ||| (d &&& (b ||| c)) else b ^^^ c ^^^ d
def stK (t : Nat) : UInt32 := if t < 20 then 0x5a827999 else if t < 40 then 0x6ed9eba1 else if t < 60 then 0x8f1bbcdc else 0xca62c1d6
/-- The eighty words of a block. -/
def wds (m : Nat → UInt32) : Nat → List UInt32
  | 0 => []
  | n + 1 => wds m n ++ [if n < 16 then m n else rotl ((wds m n).getD (n - 3) 0 ^^^ (wds m n).getD (n - 8) 0 ^^^ (wds m n).getD (n - 14) 0 ^^^ (wds m n).getD (n - 16) 0) 1]
theorem wds_length (m : Nat → UInt32) : ∀ n, (wds m n).length = n
  | 0 => rfl
  | n + 1 => by unfold wds; rw [List.length_append, wds_length m n]; rfl
def step1 (w : List UInt32) (v : V) (t : Nat) : V := ⟨rotl v.a 5 + stF t v.b v.c v.d + v.e + w.getD t 0 + stK t, v.a, rotl v.b 30, v.c, v.d⟩
def run1 (w : List UInt32) (v : V) (n : Nat) : V := (List.range n).foldl (step1 w) v
theorem run1_next (w : List UInt32) (v : V) (n : Nat) : run1 w v (n + 1) = step1 w (run1 w v n) n := by unfold run1; rw [List.range_succ, List.foldl_append]; rfl
def blk1 (m : Nat → UInt32) (v : V) : V := ⟨v.a + (run1 (wds m 80) v 80).a, v.b + (run1 (wds m 80) v 80).b, v.c + (run1 (wds m 80) v 80).c, v.d + (run1 (wds m 80) v 80).d, v.e + (run1 (wds m 80) v 80).e⟩
def v0 : V := ⟨0x67452301, 0xefcdab89, 0x98badcfe, 0x10325476, 0xc3d2e1f0⟩
def rounds1 (l : List UInt8) (n : Nat) : V := (List.range n).foldl (fun q j => blk1 (fun i => wdBE l (64 * j + 4 * i)) q) v0
theorem rounds1_next (l : List UInt8) (n : Nat) : rounds1 l (n + 1) = blk1 (fun i => wdBE l (64 * n + 4 * i)) (rounds1 l n) := by unfold rounds1; rw [List.range_succ, List.foldl_append]; rfl
def sha1 (l : List UInt8) : List UInt8 :=
  let q := rounds1 (fill l false) ((fill l false).length / 64)
  be4 q.a ++ be4 q.b ++ be4 q.c ++ be4 q.d ++ be4 q.e
/-- Digits. -/
def hexd (n : Nat) : UInt8 := [48, 49, 50, 51, 52, 53, 54, 55, 56, 57, 97, 98, 99, 100, 101, 102].getD n 0
def hex (l : List UInt8) : List UInt8 := l.flatMap fun b => [hexd (b.toNat / 16), hexd (b.toNat % 16)]
theorem md5_length (l : List UInt8) : (md5 l).length = 16 := rfl
theorem sha1_length (l : List UInt8) : (sha1 l).length = 20 := rfl
theorem live1 : hex (md5 [97, 98, 99]) = [57, 48, 48, 49, 53, 48, 57, 56, 51, 99, 100, 50, 52, 102, 98, 48, 100, 54, 57, 54, 51, 102, 55, 100, 50, 56, 101, 49, 55, 102, 55, 50] := by decide +kernel
theorem live2 : hex (md5 []) = "d41d8cd98f00b204e9800998ecf8427e".toUTF8.data.toList := by decide +kernel
theorem live3 : hex (sha1 [97, 98, 99]) = "a9993e364706816aba3e25717850c26c9cd0d89d".toUTF8.data.toList := by decide +kernel
end Go.Proofs.Ytcgopnknnolhkaa.Dg
