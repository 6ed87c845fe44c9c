/- Contracts of functions of this translation, and what they come to; what is not used is left out. -/
import Derived.Laws.BitsLemmas
import Derived.OwnWalk
import Derived.Laws.OwnMore
import Derived.Laws.MakeOwn
import Derived.Deep.AppendLies
import Derived.Laws.IdiomCopy
import Derived.Lib.LazyBuf
import Derived.Deep.MidRow
import Derived.Test.YtpjkbamkaicoiaaDoorPg5
import Derived.Test.YtpjkbamkaicoiaaDoorPCls
import Derived.Test.YtpjkbamkaicoiaaDoorPUtil
import Derived.Test.YtpjkbamkaicoiaaDoorPSoft

section
/- MD5 and SHA-1, plain: words of bytes, the steps, the blocks, the padding; digits. -/
set_option linter.unusedVariables false
set_option linter.unusedSimpArgs false
namespace Go.Proofs.YtpjkbamkaicoiaaDoor.Dg
def be4 (w : UInt32) : List UInt8 := [(w >>> 24).toUInt8, (w >>> 16).toUInt8, (w >>> 8).toUInt8, w.toUInt8]
def wBE (a b c d : UInt8) : UInt32 := a.toUInt32 <<< 24 ||| b.toUInt32 <<< 16 ||| c.toUInt32 <<< 8 ||| d.toUInt32
def rev (x : UInt32) : UInt32 := (((x >>> 8 &&& (16711935 : UInt32)) ||| ((x &&& (16711935 : UInt32)) <<< 8)) >>> 16) ||| (((x >>> 8 &&& (16711935 : UInt32)) ||| ((x &&& (16711935 : UInt32)) <<< 8)) <<< 16)
def SINES : List UInt32 := [0xd76aa478, 0xe8c7b756, 0x242070db, 0xc1bdceee, 0xf57c0faf, 0x4787c62a, 0xa8304613, 0xfd469501, 0x698098d8, 0x8b44f7af, 0xffff5bb1, 0x895cd7be, 0x6b901122, 0xfd987193, 0xa679438e, 0x49b40821, 0xf61e2562, 0xc040b340, 0x265e5a51, 0xe9b6c7aa, 0xd62f105d, 0x02441453, 0xd8a1e681, 0xe7d3fbc8, 0x21e1cde6, 0xc33707d6, 0xf4d50d87, 0x455a14ed, 0xa9e3e905, 0xfcefa3f8, 0x676f02d9, 0x8d2a4c8a, 0xfffa3942, 0x8771f681, 0x6d9d6122, 0xfde5380c, 0xa4beea44, 0x4bdecfa9, 0xf6bb4b60, 0xbebfbc70, 0x289b7ec6, 0xeaa127fa, 0xd4ef3085, 0x04881d05, 0xd9d4d039, 0xe6db99e5, 0x1fa27cf8, 0xc4ac5665, 0xf4292244, 0x432aff97, 0xab9423a7, 0xfc93a039, 0x655b59c3, 0x8f0ccc92, 0xffeff47d, 0x85845dd1, 0x6fa87e4f, 0xfe2ce6e0, 0xa3014314, 0x4e0811a1, 0xf7537e82, 0xbd3af235, 0x2ad7d2bb, 0xeb86d391]
theorem bits32 {p : Nat → Prop} (h : p 0 ∧ p 1 ∧ p 2 ∧ p 3 ∧ p 4 ∧ p 5 ∧ p 6 ∧ p 7 ∧ p 8 ∧ p 9 ∧ p 10 ∧ p 11 ∧ p 12 ∧ p 13 ∧ p 14 ∧ p 15 ∧ p 16 ∧ p 17 ∧ p 18 ∧ p 19 ∧ p 20 ∧ p 21 ∧ p 22 ∧ p 23 ∧ p 24 ∧ p 25 ∧ p 26 ∧ p 27 ∧ p 28 ∧ p 29 ∧ p 30 ∧ p 31) : ∀ i, i < 32 → p i := by
  intro i hi
  obtain ⟨h0, h1, h2, h3, h4, h5, h6, h7, h8, h9, h10, h11, h12, h13, h14, h15, h16, h17, h18, h19, h20, h21, h22, h23, h24, h25, h26, h27, h28, h29, h30, h31⟩ := h
  match i with
  | 0 => exact h0 | 1 => exact h1 | 2 => exact h2 | 3 => exact h3 | 4 => exact h4 | 5 => exact h5 | 6 => exact h6 | 7 => exact h7
  | 8 => exact h8 | 9 => exact h9 | 10 => exact h10 | 11 => exact h11 | 12 => exact h12 | 13 => exact h13 | 14 => exact h14 | 15 => exact h15
  | 16 => exact h16 | 17 => exact h17 | 18 => exact h18 | 19 => exact h19 | 20 => exact h20 | 21 => exact h21 | 22 => exact h22 | 23 => exact h23
  | 24 => exact h24 | 25 => exact h25 | 26 => exact h26 | 27 => exact h27 | 28 => exact h28 | 29 => exact h29 | 30 => exact h30 | 31 => exact h31
  | n + 32 => omega
theorem rev_wBE (a b c d : UInt8) : rev (wBE a b c d) = wBE d c b a := by
  apply UInt32.eq_of_toBitVec_eq
  apply BitVec.eq_of_getLsbD_eq
  apply bits32
  unfold rev wBE
  refine ⟨?_, ?_, ?_, ?_, ?_, ?_, ?_, ?_, ?_, ?_, ?_, ?_, ?_, ?_, ?_, ?_, ?_, ?_, ?_, ?_, ?_, ?_, ?_, ?_, ?_, ?_, ?_, ?_, ?_, ?_, ?_, ?_⟩ <;> simp [BitVec.getLsbD_or, BitVec.getLsbD_and, BitVec.getLsbD_shiftLeft, BitVec.getLsbD_ushiftRight, BitVec.getLsbD_setWidth, BitVec.getLsbD_of_ge]
theorem be4_rev (w : UInt32) : be4 (rev w) = (be4 w).reverse := by
  unfold be4 rev
  simp only [List.reverse_cons, List.reverse_nil, List.nil_append, List.cons_append, List.cons.injEq, and_true]
  refine ⟨?_, ?_, ?_, ?_⟩ <;>
  · apply UInt8.eq_of_toBitVec_eq
    apply BitVec.eq_of_getLsbD_eq
    have := @bits32
    intro i hi
    match i with
    | 0 | 1 | 2 | 3 | 4 | 5 | 6 | 7 => simp [BitVec.getLsbD_or, BitVec.getLsbD_and, BitVec.getLsbD_shiftLeft, BitVec.getLsbD_ushiftRight, BitVec.getLsbD_setWidth, BitVec.getLsbD_of_ge]
    | n + 8 => omega
theorem F0 (b c d : UInt32) : d ^^^ (b &&& (c ^^^ d)) = (b &&& c) ||| (~~~b &&& d) := by
  apply UInt32.eq_of_toBitVec_eq
  apply BitVec.eq_of_getLsbD_eq
  intro i hi
  simp only [UInt32.toBitVec_xor, UInt32.toBitVec_and, UInt32.toBitVec_or, UInt32.toBitVec_not, BitVec.getLsbD_xor, BitVec.getLsbD_and, BitVec.getLsbD_or, BitVec.getLsbD_not, hi, decide_true, Bool.true_and]
  cases b.toBitVec.getLsbD i <;> cases c.toBitVec.getLsbD i <;> cases d.toBitVec.getLsbD i <;> rfl
theorem F1 (b c d : UInt32) : c ^^^ (d &&& (b ^^^ c)) = (d &&& b) ||| (~~~d &&& c) := by
  apply UInt32.eq_of_toBitVec_eq
  apply BitVec.eq_of_getLsbD_eq
  intro i hi
  simp only [UInt32.toBitVec_xor, UInt32.toBitVec_and, UInt32.toBitVec_or, UInt32.toBitVec_not, BitVec.getLsbD_xor, BitVec.getLsbD_and, BitVec.getLsbD_or, BitVec.getLsbD_not, hi, decide_true, Bool.true_and]
  cases b.toBitVec.getLsbD i <;> cases c.toBitVec.getLsbD i <;> cases d.toBitVec.getLsbD i <;> rfl
def wLE (a b c d : UInt8) : UInt32 := wBE d c b a
def rotl (x : UInt32) (k : Nat) : UInt32 := x <<< UInt32.ofNat k ||| x >>> UInt32.ofNat (32 - k)
/-- MD5's four words. -/
structure Q where
  a : UInt32
  b : UInt32
  c : UInt32
  d : UInt32
def mixF (i : Nat) (b c d : UInt32) : UInt32 := if i < 16 then d ^^^ (b &&& (c ^^^ d)) else if i < 32 then c ^^^ (d &&& (b ^^^ c)) else if i < 48 then b ^^^ c ^^^ d else c ^^^ (b ||| ~~~d)
def mixG (i : Nat) : Nat := if i < 16 then i else if i < 32 then (5 * i + 1) % 16 else if i < 48 then (3 * i + 5) % 16 else 7 * i % 16
def trn (i : Nat) : Nat := [7, 12, 17, 22, 5, 9, 14, 20, 4, 11, 16, 23, 6, 10, 15, 21].getD (i / 16 * 4 + i % 4) 0
def sin (i : Nat) : UInt32 := SINES.getD i 0
def step5 (m : Nat → UInt32) (q : Q) (i : Nat) : Q := ⟨q.d, q.b + rotl (q.a + mixF i q.b q.c q.d + sin i + m (mixG i)) (trn i), q.b, q.c⟩
def run5 (m : Nat → UInt32) (q : Q) (n : Nat) : Q := (List.range n).foldl (step5 m) q
def blk5 (m : Nat → UInt32) (q : Q) : Q := ⟨q.a + (run5 m q 64).a, q.b + (run5 m q 64).b, q.c + (run5 m q 64).c, q.d + (run5 m q 64).d⟩
theorem run5_next (m : Nat → UInt32) (q : Q) (n : Nat) : run5 m q (n + 1) = step5 m (run5 m q n) n := by unfold run5; rw [List.range_succ, List.foldl_append]; rfl
/-- The word at a place. -/
def wdLE (l : List UInt8) (o : Nat) : UInt32 := wLE (l.getD o 0) (l.getD (o + 1) 0) (l.getD (o + 2) 0) (l.getD (o + 3) 0)
def q0 : Q := ⟨0x67452301, 0xefcdab89, 0x98badcfe, 0x10325476⟩
def rounds5 (l : List UInt8) (n : Nat) : Q := (List.range n).foldl (fun q j => blk5 (fun i => wdLE l (64 * j + 4 * i)) q) q0
theorem rounds5_next (l : List UInt8) (n : Nat) : rounds5 l (n + 1) = blk5 (fun i => wdLE l (64 * n + 4 * i)) (rounds5 l n) := by unfold rounds5; rw [List.range_succ, List.foldl_append]; rfl
/-- The padding. -/
def padN (n : Nat) : Nat := (119 - n % 64) % 64
def len8 (n : Nat) : List UInt8 := (be4 (UInt32.ofNat (n * 8 / 4294967296))) ++ be4 (UInt32.ofNat (n * 8))
def fill (l : List UInt8) (least : Bool) : List UInt8 := l ++ [128] ++ List.replicate (padN l.length) 0 ++ (if least then (len8 l.length).reverse else len8 l.length)
theorem fill_length (l : List UInt8) (b : Bool) : (fill l b).length = 64 * ((l.length + 72) / 64) := by
  unfold fill padN
  have h : ∀ c : Bool, (if c then (len8 l.length).reverse else len8 l.length).length = 8 := fun c => by cases c <;> rfl
  simp only [List.length_append, List.length_replicate, h, List.length_cons, List.length_nil]
  omega
def md5 (l : List UInt8) : List UInt8 :=
  let q := rounds5 (fill l true) ((fill l true).length / 64)
  (be4 q.a).reverse ++ (be4 q.b).reverse ++ (be4 q.c).reverse ++ (be4 q.d).reverse
/-- SHA-1's five words. -/
structure V where
  a : UInt32
  b : UInt32
  c : UInt32
  d : UInt32
  e : UInt32
def v0 : V := ⟨0x67452301, 0xefcdab89, 0x98badcfe, 0x10325476, 0xc3d2e1f0⟩
/-- Digits. -/
def hexd (n : Nat) : UInt8 := [48, 49, 50, 51, 52, 53, 54, 55, 56, 57, 97, 98, 99, 100, 101, 102].getD n 0
def hex (l : List UInt8) : List UInt8 := l.flatMap fun b => [hexd (b.toNat / 16), hexd (b.toNat % 16)]
theorem md5_length (l : List UInt8) : (md5 l).length = 16 := rfl
end Go.Proofs.YtpjkbamkaicoiaaDoor.Dg
end

section
/- digest: rotations, words, steps. -/
set_option linter.unusedVariables false
set_option linter.unusedSimpArgs false
namespace Go.Proofs.YtpjkbamkaicoiaaDoor.Dg
open Go.RowKit U
theorem bx' (x y : UInt32) : bits .xor .u32 (x.toNat : Int) (y.toNat : Int) = ((x ^^^ y).toNat : Int) := by
  have hx := x.toNat_lt
  have hy := y.toNat_lt
  simp only [bits, BitVec.ofInt_natCast]
  rw [show IntKind.bits .u32 = 32 from rfl, BitVec.toNat_xor, BitVec.toNat_ofNat, BitVec.toNat_ofNat, Nat.mod_eq_of_lt hx, Nat.mod_eq_of_lt hy, UInt32.toNat_xor, IntKind.wrap_u32]
  have := Nat.xor_lt_two_pow hx hy
  omega
theorem ba' (x y : UInt32) : bits .and .u32 (x.toNat : Int) (y.toNat : Int) = ((x &&& y).toNat : Int) := by
  have hx := x.toNat_lt
  have hy := y.toNat_lt
  simp only [bits, BitVec.ofInt_natCast]
  rw [show IntKind.bits .u32 = 32 from rfl, BitVec.toNat_and, BitVec.toNat_ofNat, BitVec.toNat_ofNat, Nat.mod_eq_of_lt hx, Nat.mod_eq_of_lt hy, UInt32.toNat_and, IntKind.wrap_u32]
  have := Nat.and_lt_two_pow x.toNat hy
  omega
theorem bo' (x y : UInt32) : bits .or .u32 (x.toNat : Int) (y.toNat : Int) = ((x ||| y).toNat : Int) := by
  have hx := x.toNat_lt
  have hy := y.toNat_lt
  simp only [bits, BitVec.ofInt_natCast]
  rw [show IntKind.bits .u32 = 32 from rfl, BitVec.toNat_or, BitVec.toNat_ofNat, BitVec.toNat_ofNat, Nat.mod_eq_of_lt hx, Nat.mod_eq_of_lt hy, UInt32.toNat_or, IntKind.wrap_u32]
  have := Nat.or_lt_two_pow hx hy
  omega
theorem bn' (x : UInt32) : bits .xor .u32 4294967295 (x.toNat : Int) = ((~~~x).toNat : Int) := by
  have h := bx' 4294967295 x
  rw [show ((4294967295 : UInt32).toNat : Int) = 4294967295 from rfl] at h
  rw [h]
  have e : 4294967295 ^^^ x = ~~~x := ?_
  · rw [e]
  apply UInt32.eq_of_toBitVec_eq
  apply BitVec.eq_of_getLsbD_eq
  apply bits32
  refine ⟨?_, ?_, ?_, ?_, ?_, ?_, ?_, ?_, ?_, ?_, ?_, ?_, ?_, ?_, ?_, ?_, ?_, ?_, ?_, ?_, ?_, ?_, ?_, ?_, ?_, ?_, ?_, ?_, ?_, ?_, ?_, ?_⟩ <;> simp
theorem bp' (x y : UInt32) : IntKind.u32.wrap ((x.toNat : Int) + (y.toNat : Int)) = ((x + y).toNat : Int) := by
  rw [IntKind.wrap_u32, UInt32.toNat_add]; omega
/-- A word's number, closed. -/
def u (x : UInt32) : Int := (x.toNat : Int)
theorem bx (x y : UInt32) : bits .xor .u32 (u x) (u y) = u (x ^^^ y) := bx' x y
theorem ba (x y : UInt32) : bits .and .u32 (u x) (u y) = u (x &&& y) := ba' x y
theorem bo (x y : UInt32) : bits .or .u32 (u x) (u y) = u (x ||| y) := bo' x y
theorem bn (x : UInt32) : bits .xor .u32 IntKind.u32.max (u x) = u (~~~x) := bn' x
theorem bp (x y : UInt32) : (u x + u y) % 4294967296 = u (x + y) := by have := bp' x y; rwa [IntKind.wrap_u32] at this
theorem u_range (x : UInt32) : 0 ≤ u x ∧ u x < 4294967296 := by have := x.toNat_lt; unfold u; omega
theorem shlE (x : UInt32) (k : Nat) (h : k < 32) : u x * 2 ^ k % 4294967296 = u (x <<< UInt32.ofNat k) := by
  unfold u
  rw [UInt32.toNat_shiftLeft, UInt32.toNat_ofNat', Nat.mod_eq_of_lt (show k < 2 ^ 32 by omega), Nat.mod_eq_of_lt h, Nat.shiftLeft_eq, Int.natCast_emod, Int.natCast_mul, Int.natCast_pow]
  rfl
theorem shrE (x : UInt32) (k : Nat) (h : k < 32) : u x / 2 ^ k = u (x >>> UInt32.ofNat k) := by
  unfold u
  rw [UInt32.toNat_shiftRight, UInt32.toNat_ofNat', Nat.mod_eq_of_lt (show k < 2 ^ 32 by omega), Nat.mod_eq_of_lt h, Nat.shiftRight_eq_div_pow, Int.natCast_ediv, Int.natCast_pow]
  rfl
theorem and31 (k : Nat) (h : k < 32) : bits .and .u64 (k : Int) 31 = (k : Int) := by
  have := bits_mask .u64 32 (by decide) (fun n h0 h1 => by rw [show IntKind.u64.wrap n = n % 18446744073709551616 by simp [IntKind.wrap, IntKind.bits, IntKind.signed]]; omega) 5 (by decide) (k : Int) (by omega) (by omega)
  have e : ((2 : Int) ^ 5 - 1) = 31 := by decide
  rw [e] at this
  rw [this]; omega
theorem ret_int {k : IntKind} {a b : Int} (h : a = b) : Ending.returned (.int k a) = .returned (.int k b) := by rw [h]
theorem rotE (x : UInt32) (k : Nat) (h0 : 0 < k) (h : k < 32) : bits .or .u32 (u x * 2 ^ k % 4294967296) (u x / 2 ^ (32 - k)) = u (rotl x k) := by
  rw [shlE x k h, shrE x (32 - k) (by omega), bo]; rfl
theorem rot_any (x : UInt32) (k : Nat) (h0 : 0 < k) (h : k < 32) (w : World) : Calls Tryd.prog 76 #[.int .u32 (u x), .int .i64 (k : Int)] w fun e w' => e = .returned (.int .u32 (u (rotl x k))) ∧ w = w' := by
  have h31 := and31 k h
  have HR := Lib.hid (rotE x k h0 h)
  go_enter Tryd.func76, Tryd.ntmps76
  go_wp2
  go_ret
  exact ⟨ret_int HR.out, rfl⟩
theorem turn_any (x : UInt32) (k : Nat) (h0 : 0 < k) (h : k < 32) (w : World) : Calls Tryd.prog 47 #[.int .u32 (u x), .int .i64 (k : Int)] w fun e w' => e = .returned (.int .u32 (u (rotl x k))) ∧ ∃ n, w' = w.drewN n := by
  have HR := Lib.hid (rotE x k h0 h)
  have b1 : ¬ ((32 : Int) - (k : Int) < 0) := by omega
  go_enter Tryd.func47, Tryd.ntmps47
  go_wp2
  go_quiet (fail)
  go_wp2
  go_ret
  exact ⟨ret_int HR.out, _, rfl⟩
theorem mM (x : UInt32) : bits .and .u32 (u x) 16711935 = u (x &&& 16711935) := ba x 16711935
theorem s8 (x : UInt32) : u x / (256 : Int) = u (x >>> 8) := shrE x 8 (by decide)
theorem l8 (x : UInt32) : u x * (256 : Int) % (4294967296 : Int) = u (x <<< 8) := shlE x 8 (by decide)
theorem s16 (x : UInt32) : u x / (65536 : Int) = u (x >>> 16) := shrE x 16 (by decide)
theorem l16 (x : UInt32) : u x * (65536 : Int) % (4294967296 : Int) = u (x <<< 16) := shlE x 16 (by decide)
theorem rev_any (x : UInt32) (w : World) : Calls Tryd.prog 78 #[.int .u32 (u x)] w fun e w' => e = .returned (.int .u32 (u (rev x))) ∧ w = w' := by
  obtain ⟨x0, x1⟩ := u_range x
  have HR : Hid (bits .or .u32 (bits .or .u32 (bits .and .u32 (u x / 256) 16711935) (bits .and .u32 (u x) 16711935 * 256 % 4294967296) / 65536) (bits .or .u32 (bits .and .u32 (u x / 256) 16711935) (bits .and .u32 (u x) 16711935 * 256 % 4294967296) * 65536 % 4294967296) = u (rev x)) := Lib.hid (by
    rw [s8, mM, mM, l8, bo, s16, l16, bo]; rfl)
  go_enter Tryd.func78, Tryd.ntmps78
  go_wp2
  go_ret
  exact ⟨ret_int HR.out, rfl⟩
theorem mask15 (n : Nat) (h : n < 1000000) : bits .and .i64 (n : Int) 15 = ((n % 16 : Nat) : Int) := by
  have := bits_mask .i64 32 (by decide) (fun n h0 h1 => by rw [IntKind.wrap_i64]; omega) 4 (by decide) (n : Int) (by omega) (by omega)
  have e : ((2 : Int) ^ 4 - 1) = 15 := by decide
  rw [e] at this
  rw [this]; omega
theorem mix_any (b c d : UInt32) (i : Nat) (w : World) (h : i < 64) : Calls Tryd.prog 75 #[.int .u32 (u b), .int .u32 (u c), .int .u32 (u d), .int .i64 (i : Int)] w fun e w' => e = .returned (.tuple #[.int .u32 (u (mixF i b c d)), .int .i64 (mixG i : Int)]) ∧ w = w' := by
  have hbx := bx
  have hba := ba
  have hbo := bo
  have hbn := bn
  unfold mixF mixG
  by_cases h1 : i < 16
  · simp only [h1, if_true]
    go_enter Tryd.func75, Tryd.ntmps75
    go_wp2
    go_ret2
    exact ⟨rfl, rfl⟩
  · by_cases h2 : i < 32
    · simp only [h1, h2, if_true, if_false]
      have hm : bits .and .i64 (5 * (i : Int) + 1) 15 = (((5 * i + 1) % 16 : Nat) : Int) := by have := mask15 (5 * i + 1) (by omega); rwa [show ((5 * i + 1 : Nat) : Int) = 5 * (i : Int) + 1 by omega] at this
      obtain ⟨G, hG⟩ : ∃ G, G = (5 * i + 1) % 16 := ⟨_, rfl⟩
      rw [← hG] at hm ⊢
      clear hG
      go_enter Tryd.func75, Tryd.ntmps75
      go_wp2
      go_ret2
      exact ⟨rfl, rfl⟩
    · by_cases h3 : i < 48
      · simp only [h1, h2, h3, if_true, if_false]
        have hm : bits .and .i64 (3 * (i : Int) + 5) 15 = (((3 * i + 5) % 16 : Nat) : Int) := by have := mask15 (3 * i + 5) (by omega); rwa [show ((3 * i + 5 : Nat) : Int) = 3 * (i : Int) + 5 by omega] at this
        obtain ⟨G, hG⟩ : ∃ G, G = (3 * i + 5) % 16 := ⟨_, rfl⟩
        rw [← hG] at hm ⊢
        clear hG
        go_enter Tryd.func75, Tryd.ntmps75
        go_wp2
        go_ret2
        exact ⟨rfl, rfl⟩
      · simp only [h1, h2, h3, if_false]
        have hm : bits .and .i64 (7 * (i : Int)) 15 = ((7 * i % 16 : Nat) : Int) := by have := mask15 (7 * i) (by omega); rwa [show ((7 * i : Nat) : Int) = 7 * (i : Int) by omega] at this
        obtain ⟨G, hG⟩ : ∃ G, G = 7 * i % 16 := ⟨_, rfl⟩
        rw [← hG] at hm ⊢
        clear hG
        go_enter Tryd.func75, Tryd.ntmps75
        go_wp2
        go_ret2
        exact ⟨rfl, rfl⟩
end Go.Proofs.YtpjkbamkaicoiaaDoor.Dg
end

section
/- digest: words. -/
set_option linter.unusedVariables false
set_option linter.unusedSimpArgs false
namespace Go.Proofs.YtpjkbamkaicoiaaDoor.Dg
open Go.RowKit U
theorem z24 (a : UInt8) : (a.toNat : Int) * (16777216 : Int) = u (a.toUInt32 <<< 24) := by
  have := a.toNat_lt
  have h := shlE a.toUInt32 24 (by decide)
  rw [show (UInt32.ofNat 24) = 24 from rfl] at h
  rw [← h]; unfold u; rw [UInt8.toNat_toUInt32]; omega
theorem z16 (a : UInt8) : (a.toNat : Int) * (65536 : Int) = u (a.toUInt32 <<< 16) := by
  have := a.toNat_lt
  have h := shlE a.toUInt32 16 (by decide)
  rw [show (UInt32.ofNat 16) = 16 from rfl] at h
  rw [← h]; unfold u; rw [UInt8.toNat_toUInt32]; omega
theorem z8 (a : UInt8) : (a.toNat : Int) * (256 : Int) = u (a.toUInt32 <<< 8) := by
  have := a.toNat_lt
  have h := shlE a.toUInt32 8 (by decide)
  rw [show (UInt32.ofNat 8) = 8 from rfl] at h
  rw [← h]; unfold u; rw [UInt8.toNat_toUInt32]; omega
theorem z0 (a : UInt8) : (a.toNat : Int) = u a.toUInt32 := by unfold u; rw [UInt8.toNat_toUInt32]
theorem beE (a b c d : UInt8) : bits .or .u32 (bits .or .u32 (bits .or .u32 ((a.toNat : Int) * 16777216) ((b.toNat : Int) * 65536)) ((c.toNat : Int) * 256)) (d.toNat : Int) = u (wBE a b c d) := by
  rw [z24, z16, z8, z0 d, bo, bo, bo]; rfl
theorem or_comm4 (a b c d : UInt32) : a ||| b ||| c ||| d = d ||| c ||| b ||| a := by
  rw [UInt32.or_comm (a ||| b ||| c) d, UInt32.or_comm (a ||| b) c, UInt32.or_comm a b, ← UInt32.or_assoc, ← UInt32.or_assoc]
theorem leE (a b c d : UInt8) : bits .or .u32 (bits .or .u32 (bits .or .u32 (a.toNat : Int) ((b.toNat : Int) * 256)) ((c.toNat : Int) * 65536)) ((d.toNat : Int) * 16777216) = u (wLE a b c d) := by
  rw [z24, z16, z8, z0 a, bo, bo, bo]
  unfold wLE wBE
  rw [or_comm4]
/-- Four bytes lie at a place. -/
structure Four (g o : Nat) (a b c d : UInt8) (w : World) : Prop where
  c0 : w.cell? ⟨g, o, none⟩ = some (.int .u8 (a.toNat : Int))
  c1 : w.cell? ⟨g, o + 1, none⟩ = some (.int .u8 (b.toNat : Int))
  c2 : w.cell? ⟨g, o + 2, none⟩ = some (.int .u8 (c.toNat : Int))
  c3 : w.cell? ⟨g, o + 3, none⟩ = some (.int .u8 (d.toNat : Int))
theorem word_any (least : Bool) {g o L C : Nat} {a b c d : UInt8} {w : World} (h : Four g o a b c d w) (hL : 4 ≤ L) (hL2 : L ≤ 9223372036854775807) :
    Calls Tryd.prog 74 #[.slice (some ⟨g, o, none⟩) L C, .bool least] w fun e w' => e = .returned (.int .u32 (u (if least then wLE a b c d else wBE a b c d))) ∧ ∃ n, w' = w.drewN n := by
  obtain ⟨c0, c1, c2, c3⟩ := h
  have ha := a.toNat_lt
  have hb := b.toNat_lt
  have hc := c.toNat_lt
  have hd := d.toNat_lt
  have HE := Lib.hid (beE a b c d)
  obtain ⟨E, hE⟩ : ∃ E, E = bits .or .u32 (bits .or .u32 (bits .or .u32 ((a.toNat : Int) * 16777216) ((b.toNat : Int) * 65536)) ((c.toNat : Int) * 256)) (d.toNat : Int) := ⟨_, rfl⟩
  rw [← hE] at HE
  have HR := Lib.hid (rev_wBE a b c d)
  have hE' := hE.symm
  clear hE
  have l1 : (1 : Int) < (L : Int) := by omega
  have l2 : (2 : Int) < (L : Int) := by omega
  have l3 : (3 : Int) < (L : Int) := by omega
  have l0 : (0 : Int) < (L : Int) := by omega
  go_enter Tryd.func74, Tryd.ntmps74
  go_wp2
  go_quiet (fail)
  have e2 := HE.out
  subst e2
  cases least with
  | true =>
    go_wp2_with fail
    refine (rev_any _ _).mono ?_
    rintro e w1 ⟨rfl, rfl⟩
    go_wp2
    go_ret
    refine ⟨?_, _, rfl⟩
    show Ending.returned (.int .u32 (u (rev (wBE a b c d)))) = _
    rw [HR.out]; rfl
  | false =>
    go_wp2
    go_ret
    exact ⟨rfl, _, rfl⟩
theorem rword_any (least : Bool) {g o L C : Nat} {a b c d : UInt8} {w : World} (h : Four g o a b c d w) (hL : 4 ≤ L) (hL2 : L ≤ 9223372036854775807) :
    Calls Tryd.prog 46 #[.slice (some ⟨g, o, none⟩) L C, .bool least] w fun e w' => e = .returned (.int .u32 (u (if least then wLE a b c d else wBE a b c d))) ∧ ∃ n, w' = w.drewN n := by
  obtain ⟨c0, c1, c2, c3⟩ := h
  have ha := a.toNat_lt
  have hb := b.toNat_lt
  have hc := c.toNat_lt
  have hd := d.toNat_lt
  have l1 : (1 : Int) < (L : Int) := by omega
  have l2 : (2 : Int) < (L : Int) := by omega
  have l3 : (3 : Int) < (L : Int) := by omega
  have l0 : (0 : Int) < (L : Int) := by omega
  cases least with
  | true =>
    have HE := Lib.hid (leE a b c d)
    go_enter Tryd.func46, Tryd.ntmps46
    go_wp2
    go_quiet (fail)
    go_wp2
    go_ret
    exact ⟨ret_int HE.out, _, rfl⟩
  | false =>
    have HE := Lib.hid (leE d c b a)
    go_enter Tryd.func46, Tryd.ntmps46
    go_wp2
    go_quiet (fail)
    go_wp2
    go_ret
    exact ⟨ret_int HE.out, _, rfl⟩
end Go.Proofs.YtpjkbamkaicoiaaDoor.Dg
end

section
/- digest: bytes of a word, appended; the padding. -/
set_option linter.unusedVariables false
set_option linter.unusedSimpArgs false
namespace Go.Proofs.YtpjkbamkaicoiaaDoor.Dg
open Go.RowKit U
def bv (l : List UInt8) : List Value := l.map fun x => .int .u8 (x.toNat : Int)
theorem bv_len (l : List UInt8) : (bv l).length = l.length := by unfold bv; rw [List.length_map]
theorem bv_append (a b : List UInt8) : bv (a ++ b) = bv a ++ bv b := by unfold bv; rw [List.map_append]
theorem bv_at (l : List UInt8) (k : Nat) (h : k < l.length) : (bv l)[k]? = some (.int .u8 ((l[k]).toNat : Int)) := by unfold bv; rw [List.getElem?_map, List.getElem?_eq_getElem h]; rfl
/-- A row of the call's own reads as these bytes. -/
def BR (w : World) (B : Nat) (v : Value) (l : List UInt8) : Prop := Soft w B v l.length (bv l)
theorem infoU8 : (Tryd.prog.info? 5).map (fun i => (i.zero, i.size, i.bytes)) = some (some (.int .u8 0), 1, 1) := by kernel_rfl
theorem addz (g j : Nat) : (⟨g, 0, none⟩ : Addr).add j = ⟨g, j, none⟩ := by unfold Addr.add; split <;> simp_all
theorem b24 (x : UInt32) : u x / (16777216 : Int) = (((x >>> 24).toUInt8).toNat : Int) := by
  have h := shrE x 24 (by decide)
  rw [show (UInt32.ofNat 24) = 24 from rfl] at h
  have e : u x / (2 : Int) ^ 24 = u x / (16777216 : Int) := by rw [show (2 : Int) ^ 24 = 16777216 by decide]
  rw [e] at h
  rw [h]
  have hx := x.toNat_lt
  unfold u
  rw [UInt32.toNat_toUInt8, UInt32.toNat_shiftRight, show (24 : UInt32).toNat % 32 = 24 from rfl, Nat.shiftRight_eq_div_pow]
  omega
theorem bAt (x : UInt32) (k : Nat) (hk : k < 32) : u x / (2 : Int) ^ k % (256 : Int) = (((x >>> UInt32.ofNat k).toUInt8).toNat : Int) := by
  rw [shrE x k hk]
  unfold u
  rw [UInt32.toNat_toUInt8]; rfl
theorem b16 (x : UInt32) : u x / (65536 : Int) % (256 : Int) = (((x >>> 16).toUInt8).toNat : Int) := by
  have := bAt x 16 (by decide)
  rwa [show (2 : Int) ^ 16 = 65536 by decide] at this
theorem b8 (x : UInt32) : u x / (256 : Int) % (256 : Int) = (((x >>> 8).toUInt8).toNat : Int) := by
  have := bAt x 8 (by decide)
  rwa [show (2 : Int) ^ 8 = 256 by decide] at this
theorem b0 (x : UInt32) : u x % (256 : Int) = ((x.toUInt8).toNat : Int) := by
  unfold u
  rw [UInt32.toNat_toUInt8]; rfl
def AppPost (B : Nat) (v : Value) (l : List UInt8) (w : World) (e : Ending) (w' : World) : Prop := ∃ g cp, e = .returned (.slice (some ⟨g, 0, none⟩) l.length cp) ∧ BR w' B (.slice (some ⟨g, 0, none⟩) l.length cp) l ∧ w.grownBy w' v.ownBlock
theorem lit_cells (w : World) (cs : List Value) (T : TypeId) : ∀ (j : Nat) (u : Value), cs[j]? = some u → (w.alloc (.cells cs.toArray T)).cell? ((⟨w.heap.size, 0, none⟩ : Addr).add j) = some u := fun j u hj => by
  rw [addz]
  exact (At.new w T cs.toArray).cell j u (by simpa using hj)
set_option maxHeartbeats 1000000 in
theorem app_any (least : Bool) {B : Nat} {v : Value} {l : List UInt8} {w : World} (h : BR w B v l) (hB : B ≤ w.heap.size) (hl : l.length ≤ 100000) (x : UInt32) :
    Calls Tryd.prog 65 #[v, .int .u32 (u x), .bool least] w (AppPost B v (l ++ (if least then (be4 x).reverse else be4 x)) w) := by
  obtain ⟨y, hy⟩ : ∃ y, y = if least then rev x else x := ⟨_, rfl⟩
  have hbe : (if least then (be4 x).reverse else be4 x) = be4 y := by
    rw [hy]; cases least with
    | true => exact (be4_rev x).symm
    | false => rfl
  rw [hbe]
  have HY := Lib.hid hy
  clear hbe hy
  obtain ⟨x0, x1⟩ := u_range x
  obtain ⟨y0, y1⟩ := u_range y
  obtain ⟨i0, hi, hz0, hz1, hz2⟩ := info_parts infoU8
  have HL : Hid ((l ++ be4 y).length = l.length + 4) := Lib.hid (by rw [List.length_append]; rfl)
  have HBV : Hid (bv (l ++ be4 y) = bv l ++ [.int .u8 (u y / 16777216), .int .u8 (u y / 65536 % 256), .int .u8 (u y / 256 % 256), .int .u8 (u y % 256)]) := Lib.hid (by rw [bv_append, b24, b16, b8, b0]; rfl)
  have hown : Soft w B v l.length (bv l) := h
  clear h
  obtain ⟨n, hn⟩ : ∃ n, n = l.length := ⟨_, rfl⟩
  rw [← hn] at hown hl HL
  obtain ⟨L, hL⟩ : ∃ L, L = bv l := ⟨_, rfl⟩
  rw [← hL] at hown HBV
  clear hn hL
  have h2 := hown.below ((Below.refl w.heap.size w).alloc (Nat.le_refl _) (.cells #[.int .u8 (u y / 16777216), .int .u8 (u y / 65536 % 256), .int .u8 (u y / 256 % 256), .int .u8 (u y % 256)] 5))
  have HC := Lib.hid (lit_cells w [.int .u8 (u y / 16777216), .int .u8 (u y / 65536 % 256), .int .u8 (u y / 256 % 256), .int .u8 (u y % 256)] 5)
  have HG := Lib.hid ((World.grownBy_alloc w (.cells #[.int .u8 (u y / 16777216), .int .u8 (u y / 65536 % 256), .int .u8 (u y / 256 % 256), .int .u8 (u y % 256)] 5) v.ownBlock))
  cases least with
  | true =>
    have e : y = rev x := HY.out
    subst e
    go_enter Tryd.func65, Tryd.ntmps65
    go_wp2_with fail
    refine (rev_any _ _).mono ?_
    rintro e w1 ⟨rfl, rfl⟩
    go_wp2_with (at_builtin; refine wpList_append_soft _ rfl _ _ 79 rfl B 5 i0 (.int .u8 0) 1 Tryd.underlying79 hi hz0 hz1 hz2 rfl _ _ _ rfl h2 ⟨w.heap.size, 0, none⟩ 4 4 [.int .u8 (u (rev x) / 16777216), .int .u8 (u (rev x) / 65536 % 256), .int .u8 (u (rev x) / 256 % 256), .int .u8 (u (rev x) % 256)] rfl rfl ?c1 ?c2 ?c3 ?c4 ?c5 ?_)
    case c1 => exact HC.out
    case c2 =>
      intro z hz
      simp only [List.mem_cons, List.not_mem_nil, or_false] at hz
      rcases hz with rfl | rfl | rfl | rfl <;> rfl
    case c3 => simp only [maxLen]; omega
    case c4 => omega
    case c5 => simp; omega
    intro v' w5 hown' hgrow
    obtain ⟨g5, cp5, rfl, hg50⟩ := hown'.form (by omega)
    have HO := Lib.hid hown'
    have HG2 := Lib.hid hgrow
    clear hown' hg50 hgrow
    go_wp2
    go_ret
    unfold AppPost
    rw [HL.out]
    refine ⟨g5, cp5, rfl, ?_, grown_trans HG.out HG2.out⟩
    unfold BR
    rw [HL.out, HBV.out]; exact HO.out
  | false =>
    have e : y = x := HY.out
    subst e
    go_enter Tryd.func65, Tryd.ntmps65
    go_wp2_with (at_builtin; refine wpList_append_soft _ rfl _ _ 79 rfl B 5 i0 (.int .u8 0) 1 Tryd.underlying79 hi hz0 hz1 hz2 rfl _ _ _ rfl h2 ⟨w.heap.size, 0, none⟩ 4 4 [.int .u8 (u y / 16777216), .int .u8 (u y / 65536 % 256), .int .u8 (u y / 256 % 256), .int .u8 (u y % 256)] rfl rfl ?c1 ?c2 ?c3 ?c4 ?c5 ?_)
    case c1 => exact HC.out
    case c2 =>
      intro z hz
      simp only [List.mem_cons, List.not_mem_nil, or_false] at hz
      rcases hz with rfl | rfl | rfl | rfl <;> rfl
    case c3 => simp only [maxLen]; omega
    case c4 => omega
    case c5 => simp; omega
    intro v' w5 hown' hgrow
    obtain ⟨g5, cp5, rfl, hg50⟩ := hown'.form (by omega)
    have HO := Lib.hid hown'
    have HG2 := Lib.hid hgrow
    clear hown' hg50 hgrow
    go_wp2
    go_ret
    unfold AppPost
    rw [HL.out]
    refine ⟨g5, cp5, rfl, ?_, grown_trans HG.out HG2.out⟩
    unfold BR
    rw [HL.out, HBV.out]; exact HO.out
end Go.Proofs.YtpjkbamkaicoiaaDoor.Dg
end

section
/- digest: the padding. -/
set_option linter.unusedVariables false
set_option linter.unusedSimpArgs false
set_option maxRecDepth 100000
namespace Go.Proofs.YtpjkbamkaicoiaaDoor.Dg
open Go.RowKit U
theorem sz1 : ∀ w, (Go.sizeOf 5).run Tryd.prog w = .ok 1 w := Tryd.sizeOf5
theorem mk_run (n : Nat) (hn : n ≤ 100000) (w : World) : (Instr.makeSlice 79 (.int .i64 (n : Int)) (.int .i64 ((n : Int) + 72))).run Tryd.prog w = .ok (.slice (some ⟨w.heap.size, 0, none⟩) n (n + 72)) (w.alloc (.cells (List.replicate (n + 72) (.int .u8 0)).toArray 5)) := by
  obtain ⟨i0, hi, hz0, hz1, hz2⟩ := info_parts infoU8
  have := run_makeSlice (P := Tryd.prog) (w := w) 79 5 i0 _ Tryd.underlying79 hi hz0 .i64 .i64 (n : Int) ((n : Int) + 72) (by omega) (by omega) (by rw [hz1]; omega) (by rw [hz2]; omega) (by omega)
  rw [this, hz1]
  have e1 : ((n : Int) + 72).toNat = n + 72 := by omega
  rw [e1, Int.toNat_natCast, Nat.mul_one]
  have e2 : madeCells (Value.int .u8 0).cells (n + 72) = (List.replicate (n + 72) (Value.int .u8 0)).toArray := by
    have := toList_madeCells_one (Value.int .u8 0) (n + 72)
    rw [← this]; rfl
  rw [e2]
theorem soft0 (n : Nat) (hn : n ≤ 100000) (w : World) : Soft (w.alloc (.cells (List.replicate (n + 72) (.int .u8 0)).toArray 5)) w.heap.size (.slice (some ⟨w.heap.size, 0, none⟩) 0 (n + 72)) 0 [] := by
  refine ⟨rfl, .inr ⟨w.heap.size, n + 72, rfl, Nat.le_refl _, by simp, by omega, by unfold maxLen; omega, (fun j u h => by simp at h), (fun j hj => ⟨?_, (At.new w _ _).free j⟩)⟩⟩
  rw [(At.new w 5 (List.replicate (n + 72) (.int .u8 0)).toArray).cell j (.int .u8 0) (by rw [List.getElem?_toArray, List.getElem?_replicate, if_pos hj])]; rfl
theorem copy_run (s : ByteArray) (hs : s.size ≤ 100000) (w : World) (ty : TypeId) : (Builtin.copy_ #[79, 9] ty #[.slice (some ⟨w.heap.size, 0, none⟩) s.size (s.size + 72), .string s]).run Tryd.prog (w.alloc (.cells (List.replicate (s.size + 72) (.int .u8 0)).toArray 5)) =
    .ok (goInt s.size) ((w.alloc (.cells (List.replicate (s.size + 72) (.int .u8 0)).toArray 5)).setCells w.heap.size 0 (bv s.data.toList)) := by
  have h0 := At.new w 5 (List.replicate (s.size + 72) (.int .u8 0)).toArray
  exact run_copy_string (P := Tryd.prog) _ _ _ ty 5 w.heap.size 0 s.size (s.size + 72) s Tryd.underlying79 sz1 (Nat.le_refl _) (fun j hj => by rw [Nat.zero_add, h0.cell j (.int .u8 0) (by rw [List.getElem?_toArray, List.getElem?_replicate, if_pos (by omega)])]; rfl) (fun j _ => h0.free _)
def FillPost (l : List UInt8) (w : World) (e : Ending) (w' : World) : Prop := ∃ g cp, e = .returned (.slice (some ⟨g, 0, none⟩) l.length cp) ∧ BR w' w.heap.size (.slice (some ⟨g, 0, none⟩) l.length cp) l ∧ Below w.heap.size w w'
theorem grown_below {w0 w w' : World} {v : Value} {n : Nat} {xs : List Value} (h : Below w0.heap.size w0 w) (hs : Soft w w0.heap.size v n xs) (hg : w.grownBy w' v.ownBlock) : Below w0.heap.size w0 w' := by
  refine h.grown hg h.size (fun k hk => ?_)
  rcases hs.2 with ⟨rfl, _⟩ | ⟨g, cap, rfl, hB, _⟩
  · cases hk
  · have : g = k := by simpa [Value.ownBlock] using hk
    omega
theorem low_high (n : Nat) (hn : n ≤ 100000) : ((n : Int) * 8 = u (UInt32.ofNat (n * 8))) ∧ (n : Int) * 8 / 4294967296 = 0 ∧ (0 : Int) = u (UInt32.ofNat (n * 8 / 4294967296)) := by
  refine ⟨?_, by omega, ?_⟩
  · unfold u; rw [UInt32.toNat_ofNat', Nat.mod_eq_of_lt (by omega)]; omega
  · unfold u; rw [UInt32.toNat_ofNat', Nat.mod_eq_of_lt (by omega)]; omega
set_option maxHeartbeats 2000000 in
theorem filled_any (least : Bool) (s : ByteArray) (hs : s.size ≤ 50000) (w : World) : Calls Tryd.prog 63 #[.string s, .bool least] w (FillPost (fill s.data.toList least) w) := by
  have hmk := mk_run s.size (by omega) w
  have HCP := Lib.hid (fun ty => copy_run s (by omega) w ty)
  have hdl : s.data.toList.length = s.size := U.len_data s
  have h1 := Soft.sets (bv s.data.toList) 0 [] _ (soft0 s.size (by omega) w) (by rw [bv_len, hdl]; omega)
  rw [bv_len, hdl, Nat.zero_add, List.nil_append] at h1
  have hb1 : Below w.heap.size w ((w.alloc (.cells (List.replicate (s.size + 72) (.int .u8 0)).toArray 5)).setCells w.heap.size 0 (bv s.data.toList)) :=
    ((Below.refl _ _).alloc (Nat.le_refl _) _).grown (grown_sets _ _ _ _) (by simp) (fun k hk => by injection hk with hk; omega)
  obtain ⟨W1, hW1⟩ : ∃ W1, W1 = (w.alloc (.cells (List.replicate (s.size + 72) (.int .u8 0)).toArray 5)).setCells w.heap.size 0 (bv s.data.toList) := ⟨_, rfl⟩
  rw [← hW1] at HCP h1 hb1
  obtain ⟨F, hF⟩ : ∃ F, F = (List.replicate (s.size + 72) (Value.int .u8 0)).toArray := ⟨_, rfl⟩
  rw [← hF] at HCP hmk
  clear hW1 hF
  obtain ⟨L, hL⟩ : ∃ L, L = s.data.toList := ⟨_, rfl⟩
  rw [← hL] at h1 ⊢
  have HLN : Hid (L.length = s.size) := Lib.hid (by rw [hL]; exact hdl)
  clear hdl hL
  obtain ⟨i0, hi, hz0, hz1, hz2⟩ := info_parts infoU8
  have hst : W1.heap.size + 0 ≥ w.heap.size := by have := hb1.size; omega
  have h2 := h1.below ((Below.refl W1.heap.size W1).alloc (Nat.le_refl _) (.cells #[.int .u8 128] 5))
  have HC := Lib.hid (lit_cells W1 [.int .u8 128] 5)
  have hb2 := Lib.hid (hb1.alloc (show w.heap.size ≤ W1.heap.size by omega) (.cells #[.int .u8 128] 5))
  have H2 := Lib.hid h2
  clear hb1 h1
  go_enter Tryd.func63, Tryd.ntmps63
  go_wp2
  rw [HCP.out]
  go_wp2_with (at_builtin; refine wpList_append_soft _ rfl _ _ 79 rfl w.heap.size 5 i0 (.int .u8 0) 1 Tryd.underlying79 hi hz0 hz1 hz2 rfl _ _ _ rfl h2 ⟨W1.heap.size, 0, none⟩ 1 1 [.int .u8 128] rfl rfl ?c1 ?c2 ?c3 ?c4 ?c5 ?_)
  case c1 => exact HC.out
  case c2 =>
    intro z hz
    rw [List.mem_singleton] at hz
    rw [hz]; rfl
  case c3 => simp only [maxLen]; omega
  case c4 => omega
  case c5 => simp; omega
  intro v' w5 hown' hgrow
  have HB5 := Lib.hid (grown_below hb2.out H2.out hgrow)
  obtain ⟨g5, cp5, rfl, hg5⟩ := hown'.form (by omega)
  have HO5 : Hid (Soft w5 w.heap.size (.slice (some ⟨g5, 0, none⟩) (s.size + 1) cp5) (s.size + 1) (bv (L ++ [128] ++ List.replicate 0 0))) := Lib.hid (by
    rw [List.replicate_zero, List.append_nil, bv_append]; exact hown')
  clear hown' hgrow h2 hmk hg5 hb2 H2 HC HCP hst
  obtain ⟨K, hK⟩ : ∃ K, K = padN s.size := ⟨_, rfl⟩
  have HK := Lib.hid hK
  clear hK
  go_wp2
  go_loopw [5] (fun v wq => ∃ (k N g cp : Nat), k ≤ K ∧ N = s.size + 1 + k ∧ v = .slice (some ⟨g, 0, none⟩) N cp ∧ Hid (Soft wq w.heap.size v N (bv (L ++ [128] ++ List.replicate k 0)) ∧ Below w.heap.size w wq)) (fun v _ => match v with | .slice _ l _ => K + s.size + 1 - l | _ => 0)
  case atStart => exact ⟨0, s.size + 1, g5, cp5, by omega, by omega, rfl, Lib.hid ⟨HO5.out, HB5.out⟩⟩
  case round =>
    obtain ⟨k, N, g, cp, hk, hN, rfl, HR⟩ := hrel
    have hK9 := HK.out
    unfold padN at hK9
    have hNN := Lib.hid hN
    have hN2 : N ≤ 60000 := by omega
    by_cases hlt : k < K
    · have t1 : ((N : Int) % 64 != 56) = true := by rw [bne_iff_ne]; omega
      have h7 := HR.out.1.below ((Below.refl wr.heap.size wr).alloc (Nat.le_refl _) (.cells #[.int .u8 0] 5))
      have HC := Lib.hid (lit_cells wr [.int .u8 0] 5)
      have hsz := HR.out.2.size
      have HB7 := Lib.hid (HR.out.2.alloc (show w.heap.size ≤ wr.heap.size by omega) (.cells #[.int .u8 0] 5))
      have H7 := Lib.hid h7
      clear hN hK9
      go_wp2_with (at_builtin; refine wpList_append_soft _ rfl _ _ 79 rfl w.heap.size 5 i0 (.int .u8 0) 1 Tryd.underlying79 hi hz0 hz1 hz2 rfl _ _ _ rfl h7 ⟨wr.heap.size, 0, none⟩ 1 1 [.int .u8 0] rfl rfl ?c1 ?c2 ?c3 ?c4 ?c5 ?_)
      case c1 => exact HC.out
      case c2 =>
        intro z hz
        rw [List.mem_singleton] at hz
        rw [hz]; rfl
      case c3 => simp only [maxLen]; omega
      case c4 => omega
      case c5 => simp; omega
      intro v' w6 hown' hgrow
      have HB6 := Lib.hid (grown_below HB7.out H7.out hgrow)
      obtain ⟨g6, cp6, rfl, hg6⟩ := hown'.form (by omega)
      have HO6 : Hid (Soft w6 w.heap.size (.slice (some ⟨g6, 0, none⟩) (N + 1) cp6) (N + 1) (bv (L ++ [128] ++ List.replicate (k + 1) 0))) := Lib.hid (by
        rw [List.replicate_succ', ← List.append_assoc, bv_append, List.append_assoc L [128]]; exact hown')
      clear hown' hgrow hg6 h7
      go_wp2
      go_roundw
      case rel => exact ⟨k + 1, N + 1, g6, cp6, by omega, by have := hNN.out; omega, rfl, Lib.hid ⟨HO6.out, HB6.out⟩⟩
      case measure => have := hNN.out; simp; omega
    · have hkK : k = K := by omega
      have t1 : ((N : Int) % 64 != 56) = false := by rw [bne_eq_false_iff_eq]; omega
      obtain ⟨q1, q2, q3⟩ := low_high s.size (by omega)
      obtain ⟨LW, hLW⟩ : ∃ x, x = (if least then (be4 (UInt32.ofNat (s.size * 8))).reverse else be4 (UInt32.ofNat (s.size * 8))) := ⟨_, rfl⟩
      obtain ⟨HW, hHW⟩ : ∃ x, x = (if least then (be4 (UInt32.ofNat (s.size * 8 / 4294967296))).reverse else be4 (UInt32.ofNat (s.size * 8 / 4294967296))) := ⟨_, rfl⟩
      have lLW : LW.length = 4 := by rw [hLW]; cases least <;> rfl
      have lHW : HW.length = 4 := by rw [hHW]; cases least <;> rfl
      obtain ⟨M, hM⟩ : ∃ M, M = L ++ [128] ++ List.replicate k 0 := ⟨_, rfl⟩
      have lM : M.length = N := by rw [hM]; simp only [List.length_append, List.length_replicate, HLN.out, hN, List.length_cons, List.length_nil]
      have HP : Hid (fill L least = if least then M ++ LW ++ HW else M ++ HW ++ LW) := Lib.hid (by
        rw [hM, hLW, hHW, hkK, HK.out, ← HLN.out]
        unfold fill len8
        cases least with
        | true => simp only [if_true, List.reverse_append, List.append_assoc]
        | false => simp only [Bool.false_eq_true, if_false, List.append_assoc])
      have HAL : Hid (∀ (v : Value) (l : List UInt8) (n : Nat) (w9 : World), Soft w9 w.heap.size v n (bv l) → l.length = n → w.heap.size ≤ w9.heap.size → n ≤ 100000 → Calls Tryd.prog 65 #[v, .int .u32 ((s.size : Int) * 8), .bool least] w9 (AppPost w.heap.size v (l ++ LW) w9)) := Lib.hid (fun v l n w9 h1 h2 h3 h4 => by subst h2; rw [hLW, q1]; exact app_any least h1 h3 h4 _)
      have HAH : Hid (∀ (v : Value) (l : List UInt8) (n : Nat) (w9 : World), Soft w9 w.heap.size v n (bv l) → l.length = n → w.heap.size ≤ w9.heap.size → n ≤ 100000 → Calls Tryd.prog 65 #[v, .int .u32 0, .bool least] w9 (AppPost w.heap.size v (l ++ HW) w9)) := Lib.hid (fun v l n w9 h1 h2 h3 h4 => by subst h2; rw [hHW, q3]; exact app_any least h1 h3 h4 _)
      have HR2 : Hid (Soft wr w.heap.size (.slice (some ⟨g, 0, none⟩) N cp) N (bv M) ∧ Below w.heap.size w wr) := Lib.hid (by rw [hM]; exact HR.out)
      have HM := Lib.hid lM
      have HLW := Lib.hid lLW
      have HHW := Lib.hid lHW
      clear hN hK9 q1 q3 hlt hLW hHW lLW lHW hM lM HR hNN
      cases least with
      | true =>
        go_wp2_with fail
        refine (HAL.out _ _ _ _ HR2.out.1 HM.out HR2.out.2.size (by omega)).mono ?_
        rintro e w6 ⟨g6, cp6, rfl, h6, hg6⟩
        have HB6 := Lib.hid (grown_below HR2.out.2 HR2.out.1 hg6)
        have hl6 : (M ++ LW).length = N + 4 := by rw [List.length_append, HM.out, HLW.out]
        unfold BR at h6
        rw [hl6] at h6 ⊢
        have H6 := Lib.hid h6
        have HL6 := Lib.hid hl6
        clear h6 hg6 hl6
        go_wp2_with fail
        refine (HAH.out _ _ _ _ H6.out HL6.out HB6.out.size (by omega)).mono ?_
        rintro e w7 ⟨g7, cp7, rfl, h7, hg7⟩
        have HB7 := Lib.hid (grown_below HB6.out H6.out hg7)
        have hl7 : (M ++ LW ++ HW).length = N + 8 := by rw [List.length_append, HL6.out, HHW.out]
        have hf : fill L true = M ++ LW ++ HW := by have := HP.out; simpa using this
        unfold BR at h7
        rw [hl7] at h7 ⊢
        have H7 := Lib.hid h7
        have HF := Lib.hid hf
        have HL7 := Lib.hid hl7
        clear h7 hg7 hl7 hf HP
        go_wp2
        go_ret
        rw [HF.out]
        unfold FillPost BR
        rw [HL7.out]
        exact ⟨g7, cp7, rfl, H7.out, HB7.out⟩
      | false =>
        go_wp2_with fail
        refine (HAH.out _ _ _ _ HR2.out.1 HM.out HR2.out.2.size (by omega)).mono ?_
        rintro e w6 ⟨g6, cp6, rfl, h6, hg6⟩
        have HB6 := Lib.hid (grown_below HR2.out.2 HR2.out.1 hg6)
        have hl6 : (M ++ HW).length = N + 4 := by rw [List.length_append, HM.out, HHW.out]
        unfold BR at h6
        rw [hl6] at h6 ⊢
        have H6 := Lib.hid h6
        have HL6 := Lib.hid hl6
        clear h6 hg6 hl6
        go_wp2_with fail
        refine (HAL.out _ _ _ _ H6.out HL6.out HB6.out.size (by omega)).mono ?_
        rintro e w7 ⟨g7, cp7, rfl, h7, hg7⟩
        have HB7 := Lib.hid (grown_below HB6.out H6.out hg7)
        have hl7 : (M ++ HW ++ LW).length = N + 8 := by rw [List.length_append, HL6.out, HLW.out]
        have hf : fill L false = M ++ HW ++ LW := by have := HP.out; simpa using this
        unfold BR at h7
        rw [hl7] at h7 ⊢
        have H7 := Lib.hid h7
        have HF := Lib.hid hf
        have HL7 := Lib.hid hl7
        clear h7 hg7 hl7 hf HP
        go_wp2
        go_ret
        rw [HF.out]
        unfold FillPost BR
        rw [HL7.out]
        exact ⟨g7, cp7, rfl, H7.out, HB7.out⟩
end Go.Proofs.YtpjkbamkaicoiaaDoor.Dg
end

section
/- wharfref07: the padding. -/
set_option linter.unusedVariables false
set_option linter.unusedSimpArgs false
set_option maxRecDepth 100000
namespace Go.Proofs.YtpjkbamkaicoiaaDoor.Dg
open Go.RowKit U
def B8 (m k : Nat) : UInt8 := UInt8.ofNat (m / 2 ^ (8 * k))
theorem low_byte (m k : Nat) (hk : k < 4) (hm : m < 4294967296) : ((UInt32.ofNat m) >>> UInt32.ofNat (8 * k)).toUInt8 = B8 m k := by
  apply UInt8.toNat_inj.1
  unfold B8
  rw [UInt32.toNat_toUInt8, UInt32.toNat_shiftRight, UInt32.toNat_ofNat', UInt32.toNat_ofNat', UInt8.toNat_ofNat', Nat.mod_eq_of_lt (show 8 * k < 2 ^ 32 by omega), Nat.mod_eq_of_lt (show 8 * k < 32 by omega), Nat.mod_eq_of_lt (show m < 2 ^ 32 by omega), Nat.shiftRight_eq_div_pow]
theorem high_byte (m k : Nat) (hk : 4 ≤ k) (hk2 : k < 8) (hm : m < 4294967296) : B8 m k = 0 := by
  unfold B8
  have : m / 2 ^ (8 * k) = 0 := Nat.div_eq_of_lt (Nat.lt_of_lt_of_le hm (by
    have : 2 ^ 32 ≤ 2 ^ (8 * k) := Nat.pow_le_pow_right (by decide) (by omega)
    omega))
  rw [this]; rfl
theorem len8_eq (n : Nat) (hn : n ≤ 100000) : len8 n = [B8 (n * 8) 7, B8 (n * 8) 6, B8 (n * 8) 5, B8 (n * 8) 4, B8 (n * 8) 3, B8 (n * 8) 2, B8 (n * 8) 1, B8 (n * 8) 0] := by
  have hm : n * 8 < 4294967296 := by omega
  have h0 : n * 8 / 4294967296 = 0 := by omega
  rw [high_byte _ 7 (by decide) (by decide) hm, high_byte _ 6 (by decide) (by decide) hm, high_byte _ 5 (by decide) (by decide) hm, high_byte _ 4 (by decide) (by decide) hm]
  rw [← low_byte _ 3 (by decide) hm, ← low_byte _ 2 (by decide) hm, ← low_byte _ 1 (by decide) hm, ← low_byte _ 0 (by decide) hm]
  unfold len8 be4
  rw [h0]
  have hz : (UInt32.ofNat (n * 8)) >>> UInt32.ofNat (8 * 0) = UInt32.ofNat (n * 8) := by
    apply UInt32.toNat_inj.1
    rw [UInt32.toNat_shiftRight]; rfl
  rw [hz]
  rfl
/-- The bytes of the length in the order in which the reference lays them. -/
def lay8 (least : Bool) (m i : Nat) : List UInt8 := (List.range i).map fun j => B8 m (if least then j else 7 - j)
theorem lay8_next (least : Bool) (m i : Nat) : lay8 least m (i + 1) = lay8 least m i ++ [B8 m (if least then i else 7 - i)] := by unfold lay8; rw [List.range_succ, List.map_append]; rfl
theorem lay8_all (least : Bool) (n : Nat) (hn : n ≤ 100000) : lay8 least (n * 8) 8 = if least then (len8 n).reverse else len8 n := by
  rw [len8_eq n hn]
  cases least <;> rfl
theorem B8_val (n k : Nat) : (n : Int) * 8 / (2 : Int) ^ (8 * k) % (256 : Int) = ((B8 (n * 8) k).toNat : Int) := by
  unfold B8
  rw [UInt8.toNat_ofNat', Int.natCast_emod, Int.natCast_ediv, Int.natCast_mul, Int.natCast_pow]; rfl
set_option maxHeartbeats 2000000 in
theorem rfill_any (least : Bool) (s : ByteArray) (hs : s.size ≤ 50000) (w : World) : Calls Tryd.prog 45 #[.string s, .bool least] w (FillPost (fill s.data.toList least) w) := by
  have hcv := Lib.run_convert_string_bytes (P := Tryd.prog) w 9 79 5 s Tryd.underlying9 Tryd.underlying79 Tryd.underlying5
  have h1 : Soft (Lib.bytesWorld w 5 s) w.heap.size (.slice (some ⟨w.heap.size, 0, none⟩) s.size (grownCap w s.size 0 5)) s.size (bv s.data.toList) := Soft.bytes w 5 s (by unfold maxLen; omega)
  have hb1 := U.below_bytesWorld w 5 s
  obtain ⟨CP, hCP⟩ : ∃ CP, CP = grownCap w s.size 0 5 := ⟨_, rfl⟩
  obtain ⟨W1, hW1⟩ : ∃ W1, W1 = Lib.bytesWorld w 5 s := ⟨_, rfl⟩
  rw [← hCP, ← hW1] at hcv h1
  rw [← hW1] at hb1
  clear hCP hW1
  obtain ⟨L, hL⟩ : ∃ L, L = s.data.toList := ⟨_, rfl⟩
  have HLN : Hid (L.length = s.size) := Lib.hid (by rw [hL]; exact U.len_data s)
  rw [← hL] at h1 ⊢
  clear hL
  obtain ⟨i0, hi, hz0, hz1, hz2⟩ := info_parts infoU8
  have h2 := h1.below ((Below.refl W1.heap.size W1).alloc (Nat.le_refl _) (.cells #[.int .u8 128] 5))
  have HC := Lib.hid (lit_cells W1 [.int .u8 128] 5)
  have hsz1 := hb1.size
  have hb2 := Lib.hid (hb1.alloc (show w.heap.size ≤ W1.heap.size by omega) (.cells #[.int .u8 128] 5))
  have H2 := Lib.hid h2
  clear hb1 h1
  go_enter Tryd.func45, Tryd.ntmps45
  go_wp2_with (at_builtin; refine wpList_append_soft _ rfl _ _ 79 rfl w.heap.size 5 i0 (.int .u8 0) 1 Tryd.underlying79 hi hz0 hz1 hz2 rfl _ _ _ rfl h2 ⟨W1.heap.size, 0, none⟩ 1 1 [.int .u8 128] rfl rfl ?c1 ?c2 ?c3 ?c4 ?c5 ?_)
  case c1 => exact HC.out
  case c2 =>
    intro z hz
    rw [List.mem_singleton] at hz
    rw [hz]; rfl
  case c3 => simp only [maxLen]; omega
  case c4 => omega
  case c5 => simp; omega
  intro v' w5 hown' hgrow
  have HB5 := Lib.hid (grown_below hb2.out H2.out hgrow)
  obtain ⟨g5, cp5, rfl, hg5⟩ := hown'.form (by omega)
  have HO5 : Hid (Soft w5 w.heap.size (.slice (some ⟨g5, 0, none⟩) (s.size + 1) cp5) (s.size + 1) (bv (L ++ [128] ++ List.replicate 0 0))) := Lib.hid (by
    rw [List.replicate_zero, List.append_nil, bv_append]; exact hown')
  clear hown' hgrow h2 hcv hg5 hb2 H2 HC hsz1
  obtain ⟨K, hK⟩ : ∃ K, K = padN s.size := ⟨_, rfl⟩
  have HK := Lib.hid hK
  clear hK
  go_wp2
  go_loopw [5] (fun v wq => ∃ (k N g cp : Nat), k ≤ K ∧ N = s.size + 1 + k ∧ v = .slice (some ⟨g, 0, none⟩) N cp ∧ Hid (Soft wq w.heap.size v N (bv (L ++ [128] ++ List.replicate k 0)) ∧ Below w.heap.size w wq)) (fun v _ => match v with | .slice _ l _ => K + s.size + 1 - l | _ => 0)
  case atStart => exact ⟨0, s.size + 1, g5, cp5, by omega, by omega, rfl, Lib.hid ⟨HO5.out, HB5.out⟩⟩
  case round =>
    obtain ⟨k, N, g, cp, hk, hN, rfl, HR⟩ := hrel
    have hK9 := HK.out
    unfold padN at hK9
    have hNN := Lib.hid hN
    have hN2 : N ≤ 60000 := by omega
    by_cases hlt : k < K
    · have t1 : ((N : Int) % 64 != 56) = true := by rw [bne_iff_ne]; omega
      have h7 := HR.out.1.below ((Below.refl wr.heap.size wr).alloc (Nat.le_refl _) (.cells #[.int .u8 0] 5))
      have HC := Lib.hid (lit_cells wr [.int .u8 0] 5)
      have hsz := HR.out.2.size
      have HB7 := Lib.hid (HR.out.2.alloc (show w.heap.size ≤ wr.heap.size by omega) (.cells #[.int .u8 0] 5))
      have H7 := Lib.hid h7
      clear hN hK9
      go_wp2_with (at_builtin; refine wpList_append_soft _ rfl _ _ 79 rfl w.heap.size 5 i0 (.int .u8 0) 1 Tryd.underlying79 hi hz0 hz1 hz2 rfl _ _ _ rfl h7 ⟨wr.heap.size, 0, none⟩ 1 1 [.int .u8 0] rfl rfl ?c1 ?c2 ?c3 ?c4 ?c5 ?_)
      case c1 => exact HC.out
      case c2 =>
        intro z hz
        rw [List.mem_singleton] at hz
        rw [hz]; rfl
      case c3 => simp only [maxLen]; omega
      case c4 => omega
      case c5 => simp; omega
      intro v' w6 hown' hgrow
      have HB6 := Lib.hid (grown_below HB7.out H7.out hgrow)
      obtain ⟨g6, cp6, rfl, hg6⟩ := hown'.form (by omega)
      have HO6 : Hid (Soft w6 w.heap.size (.slice (some ⟨g6, 0, none⟩) (N + 1) cp6) (N + 1) (bv (L ++ [128] ++ List.replicate (k + 1) 0))) := Lib.hid (by
        rw [List.replicate_succ', ← List.append_assoc, bv_append, List.append_assoc L [128]]; exact hown')
      clear hown' hgrow hg6 h7
      go_wp2
      go_roundw
      case rel => exact ⟨k + 1, N + 1, g6, cp6, by omega, by have := hNN.out; omega, rfl, Lib.hid ⟨HO6.out, HB6.out⟩⟩
      case measure => have := hNN.out; simp; omega
    · have hkK : k = K := by omega
      have t1 : ((N : Int) % 64 != 56) = false := by rw [bne_eq_false_iff_eq]; omega
      obtain ⟨M, hM⟩ : ∃ M, M = L ++ [128] ++ List.replicate k 0 := ⟨_, rfl⟩
      have HM : Hid (M.length = N) := Lib.hid (by rw [hM]; simp only [List.length_append, List.length_replicate, HLN.out, hN, List.length_cons, List.length_nil])
      have HP : Hid (fill L least = M ++ lay8 least (s.size * 8) 8) := Lib.hid (by
        rw [hM, lay8_all least s.size (by omega), hkK, HK.out, ← HLN.out]; rfl)
      have HR2 : Hid (Soft wr w.heap.size (.slice (some ⟨g, 0, none⟩) N cp) N (bv (M ++ lay8 least (s.size * 8) 0)) ∧ Below w.heap.size w wr) := Lib.hid (by rw [show lay8 least (s.size * 8) 0 = [] from rfl, List.append_nil, hM]; exact HR.out)
      clear hN hK9 hlt hM HR hNN hkK hk HK HO5 HB5
      go_wp2
      go_loopw [5, 7] (fun v j wq => ∃ (i N2 g cp : Nat), i ≤ 8 ∧ N2 = N + i ∧ j = .int .i64 i ∧ v = .slice (some ⟨g, 0, none⟩) N2 cp ∧ Hid (Soft wq w.heap.size v N2 (bv (M ++ lay8 least (s.size * 8) i)) ∧ Below w.heap.size w wq)) (fun _ j _ => 8 - (intOf j).toNat)
      case atStart => exact ⟨0, N, g, cp, by omega, rfl, rfl, rfl, HR2⟩
      case round =>
        obtain ⟨i, N2, g2, cp2, hi8, hN2', rfl, rfl, HR3⟩ := hrel
        have hNN := Lib.hid hN2'
        have hN3 : N2 ≤ 70000 := by omega
        clear hN2'
        by_cases hi9 : i < 8
        · cases least with
          | true =>
            have hE : Hid ((s.size : Int) * 8 / (2 : Int) ^ (8 * i) % (256 : Int) = ((B8 (s.size * 8) i).toNat : Int)) := Lib.hid (B8_val s.size i)
            have HNX : Hid (bv (M ++ lay8 true (s.size * 8) (i + 1)) = bv (M ++ lay8 true (s.size * 8) i) ++ [.int .u8 ((s.size : Int) * 8 / 2 ^ (8 * i) % 256)]) := Lib.hid (by rw [lay8_next, ← List.append_assoc, bv_append, hE.out]; rfl)
            have h7 := HR3.out.1.below ((Below.refl wr.heap.size wr).alloc (Nat.le_refl _) (.cells #[.int .u8 ((s.size : Int) * 8 / 2 ^ (8 * i) % 256)] 5))
            have HC := Lib.hid (lit_cells wr [.int .u8 ((s.size : Int) * 8 / 2 ^ (8 * i) % 256)] 5)
            have hsz := HR3.out.2.size
            have HB7 := Lib.hid (HR3.out.2.alloc (show w.heap.size ≤ wr.heap.size by omega) (.cells #[.int .u8 ((s.size : Int) * 8 / 2 ^ (8 * i) % 256)] 5))
            have H7 := Lib.hid h7
            go_wp2_with (at_builtin; refine wpList_append_soft _ rfl _ _ 79 rfl w.heap.size 5 i0 (.int .u8 0) 1 Tryd.underlying79 hi hz0 hz1 hz2 rfl _ _ _ rfl h7 ⟨wr.heap.size, 0, none⟩ 1 1 [.int .u8 ((s.size : Int) * 8 / 2 ^ (8 * i) % 256)] rfl rfl ?c1 ?c2 ?c3 ?c4 ?c5 ?_)
            case c1 => exact HC.out
            case c2 =>
              intro z hz
              rw [List.mem_singleton] at hz
              rw [hz]; rfl
            case c3 => simp only [maxLen]; omega
            case c4 => omega
            case c5 => simp; omega
            intro v' w6 hown' hgrow
            have HB6 := Lib.hid (grown_below HB7.out H7.out hgrow)
            obtain ⟨g6, cp6, rfl, hg6⟩ := hown'.form (by omega)
            rw [← HNX.out] at hown'
            have HO6 := Lib.hid hown'
            clear hown' hgrow hg6 h7
            go_wp2
            go_roundw
            case rel => exact ⟨i + 1, N2 + 1, g6, cp6, by omega, by have := hNN.out; omega, by go_num, rfl, Lib.hid ⟨HO6.out, HB6.out⟩⟩
            case measure => simp [intOf]; omega
          | false =>
            obtain ⟨m, hm⟩ : ∃ m, m = 7 - i := ⟨_, rfl⟩
            have hm7 : (7 : Int) - (i : Int) = (m : Int) := by omega
            have hmm : m ≤ 7 := by omega
            have HMI := Lib.hid hm
            clear hm
            have hE : Hid ((s.size : Int) * 8 / (2 : Int) ^ (8 * m) % (256 : Int) = ((B8 (s.size * 8) m).toNat : Int)) := Lib.hid (B8_val s.size m)
            have HNX : Hid (bv (M ++ lay8 false (s.size * 8) (i + 1)) = bv (M ++ lay8 false (s.size * 8) i) ++ [.int .u8 ((s.size : Int) * 8 / 2 ^ (8 * m) % 256)]) := Lib.hid (by rw [lay8_next, ← List.append_assoc, bv_append, hE.out]; rw [show (if (false : Bool) then i else 7 - i) = m by rw [HMI.out]; rfl]; rfl)
            have h7 := HR3.out.1.below ((Below.refl wr.heap.size wr).alloc (Nat.le_refl _) (.cells #[.int .u8 ((s.size : Int) * 8 / 2 ^ (8 * m) % 256)] 5))
            have HC := Lib.hid (lit_cells wr [.int .u8 ((s.size : Int) * 8 / 2 ^ (8 * m) % 256)] 5)
            have hsz := HR3.out.2.size
            have HB7 := Lib.hid (HR3.out.2.alloc (show w.heap.size ≤ wr.heap.size by omega) (.cells #[.int .u8 ((s.size : Int) * 8 / 2 ^ (8 * m) % 256)] 5))
            have H7 := Lib.hid h7
            go_wp2_with (at_builtin; refine wpList_append_soft _ rfl _ _ 79 rfl w.heap.size 5 i0 (.int .u8 0) 1 Tryd.underlying79 hi hz0 hz1 hz2 rfl _ _ _ rfl h7 ⟨wr.heap.size, 0, none⟩ 1 1 [.int .u8 ((s.size : Int) * 8 / 2 ^ (8 * m) % 256)] rfl rfl ?c1 ?c2 ?c3 ?c4 ?c5 ?_)
            case c1 => exact HC.out
            case c2 =>
              intro z hz
              rw [List.mem_singleton] at hz
              rw [hz]; rfl
            case c3 => simp only [maxLen]; omega
            case c4 => omega
            case c5 => simp; omega
            intro v' w6 hown' hgrow
            have HB6 := Lib.hid (grown_below HB7.out H7.out hgrow)
            obtain ⟨g6, cp6, rfl, hg6⟩ := hown'.form (by omega)
            rw [← HNX.out] at hown'
            have HO6 := Lib.hid hown'
            clear hown' hgrow hg6 h7
            go_wp2
            go_roundw
            case rel => exact ⟨i + 1, N2 + 1, g6, cp6, by omega, by have := hNN.out; omega, by go_num, rfl, Lib.hid ⟨HO6.out, HB6.out⟩⟩
            case measure => simp [intOf]; omega
        · have hi88 : i = 8 := by omega
          subst hi88
          go_wp2
          go_ret
          unfold FillPost
          have hl : (fill L least).length = N2 := by rw [HP.out, List.length_append, HM.out, hNN.out]; rfl
          refine ⟨g2, cp2, by rw [hl]; rfl, ?_, HR3.out.2⟩
          unfold BR
          rw [hl, HP.out]
          exact HR3.out.1
end Go.Proofs.YtpjkbamkaicoiaaDoor.Dg
end

section
/- digest: turns, words. -/
set_option linter.unusedVariables false
set_option linter.unusedSimpArgs false
namespace Go.Proofs.YtpjkbamkaicoiaaDoor.Dg
open Go.RowKit U
theorem trn_pos (i : Nat) (h : i < 64) : 0 < trn i ∧ trn i < 32 := by
  have : ∀ k, k < 16 → 0 < [7, 12, 17, 22, 5, 9, 14, 20, 4, 11, 16, 23, 6, 10, 15, 21].getD k 0 ∧ [7, 12, 17, 22, 5, 9, 14, 20, 4, 11, 16, 23, 6, 10, 15, 21].getD k 0 < 32 := by decide
  exact this _ (by omega)
theorem ixp0 (w : World) : (Instr.index 110 (.agg #[.int .i64 5, .int .i64 9, .int .i64 14, .int .i64 20]) (.int .i64 0)).run Tryd.prog w = .ok (.int .i64 5) w := by kernel_rfl
theorem ixp1 (w : World) : (Instr.index 110 (.agg #[.int .i64 5, .int .i64 9, .int .i64 14, .int .i64 20]) (.int .i64 1)).run Tryd.prog w = .ok (.int .i64 9) w := by kernel_rfl
theorem ixp2 (w : World) : (Instr.index 110 (.agg #[.int .i64 5, .int .i64 9, .int .i64 14, .int .i64 20]) (.int .i64 2)).run Tryd.prog w = .ok (.int .i64 14) w := by kernel_rfl
theorem ixp3 (w : World) : (Instr.index 110 (.agg #[.int .i64 5, .int .i64 9, .int .i64 14, .int .i64 20]) (.int .i64 3)).run Tryd.prog w = .ok (.int .i64 20) w := by kernel_rfl
theorem ixq0 (w : World) : (Instr.index 110 (.agg #[.int .i64 4, .int .i64 11, .int .i64 16, .int .i64 23]) (.int .i64 0)).run Tryd.prog w = .ok (.int .i64 4) w := by kernel_rfl
theorem ixq1 (w : World) : (Instr.index 110 (.agg #[.int .i64 4, .int .i64 11, .int .i64 16, .int .i64 23]) (.int .i64 1)).run Tryd.prog w = .ok (.int .i64 11) w := by kernel_rfl
theorem ixq2 (w : World) : (Instr.index 110 (.agg #[.int .i64 4, .int .i64 11, .int .i64 16, .int .i64 23]) (.int .i64 2)).run Tryd.prog w = .ok (.int .i64 16) w := by kernel_rfl
theorem ixq3 (w : World) : (Instr.index 110 (.agg #[.int .i64 4, .int .i64 11, .int .i64 16, .int .i64 23]) (.int .i64 3)).run Tryd.prog w = .ok (.int .i64 23) w := by kernel_rfl
theorem ixr0 (w : World) : (Instr.index 110 (.agg #[.int .i64 6, .int .i64 10, .int .i64 15, .int .i64 21]) (.int .i64 0)).run Tryd.prog w = .ok (.int .i64 6) w := by kernel_rfl
theorem ixr1 (w : World) : (Instr.index 110 (.agg #[.int .i64 6, .int .i64 10, .int .i64 15, .int .i64 21]) (.int .i64 1)).run Tryd.prog w = .ok (.int .i64 10) w := by kernel_rfl
theorem ixr2 (w : World) : (Instr.index 110 (.agg #[.int .i64 6, .int .i64 10, .int .i64 15, .int .i64 21]) (.int .i64 2)).run Tryd.prog w = .ok (.int .i64 15) w := by kernel_rfl
theorem ixr3 (w : World) : (Instr.index 110 (.agg #[.int .i64 6, .int .i64 10, .int .i64 15, .int .i64 21]) (.int .i64 3)).run Tryd.prog w = .ok (.int .i64 21) w := by kernel_rfl
set_option maxHeartbeats 4000000 in
theorem turns_any (i : Nat) (w : World) (h : i < 64) : Calls Tryd.prog 77 #[.int .i64 (i : Int)] w fun e w' => e = .returned (.int .i64 (trn i : Int)) ∧ w = w' := by
  rcases (show i / 16 = 0 ∨ i / 16 = 1 ∨ i / 16 = 2 ∨ i / 16 = 3 by omega) with hq | hq | hq | hq <;> rcases (show i % 4 = 0 ∨ i % 4 = 1 ∨ i % 4 = 2 ∨ i % 4 = 3 by omega) with hr | hr | hr | hr
  all_goals
    have ht : trn i = [7, 12, 17, 22, 5, 9, 14, 20, 4, 11, 16, 23, 6, 10, 15, 21].getD (i / 16 * 4 + i % 4) 0 := rfl
    rw [hq, hr] at ht
    have hq' : (i : Int) / 16 = ((i / 16 : Nat) : Int) := by omega
    have hr' : (i : Int) % 4 = ((i % 4 : Nat) : Int) := by omega
    rw [hq] at hq'
    rw [hr] at hr'
    rw [ht]
    clear hq hr ht
    have ip0 := ixp0
    have ip1 := ixp1
    have ip2 := ixp2
    have ip3 := ixp3
    have iq0 := ixq0
    have iq1 := ixq1
    have iq2 := ixq2
    have iq3 := ixq3
    have ir0 := ixr0
    have ir1 := ixr1
    have ir2 := ixr2
    have ir3 := ixr3
    go_enter Tryd.func77, Tryd.ntmps77
    go_wp2
    go_ret
    exact ⟨rfl, rfl⟩
set_option maxHeartbeats 4000000 in
theorem rturns_any (i : Nat) (w : World) (h : i < 64) : Calls Tryd.prog 48 #[.int .i64 (i : Int)] w fun e w' => e = .returned (.int .i64 (trn i : Int)) ∧ Below w.heap.size w w' := by
  rcases (show i / 16 = 0 ∨ i / 16 = 1 ∨ i / 16 = 2 ∨ i / 16 = 3 by omega) with hq | hq | hq | hq <;> rcases (show i % 4 = 0 ∨ i % 4 = 1 ∨ i % 4 = 2 ∨ i % 4 = 3 by omega) with hr | hr | hr | hr
  all_goals
    have ht : trn i = [7, 12, 17, 22, 5, 9, 14, 20, 4, 11, 16, 23, 6, 10, 15, 21].getD (i / 16 * 4 + i % 4) 0 := rfl
    rw [hq, hr] at ht
    have hq' : (i : Int) / 16 = ((i / 16 : Nat) : Int) := by omega
    have hr' : (i : Int) % 4 = ((i % 4 : Nat) : Int) := by omega
    rw [hq] at hq'
    rw [hr] at hr'
    rw [ht]
    clear hq hr ht
    go_enter Tryd.func48, Tryd.ntmps48
    go_wp2
    go_ret
    exact ⟨rfl, (Below.refl _ _).alloc (Nat.le_refl _) _⟩
end Go.Proofs.YtpjkbamkaicoiaaDoor.Dg
end

section
/- digest: MD5's block. -/
set_option linter.unusedVariables false
set_option linter.unusedSimpArgs false
set_option maxRecDepth 100000
namespace Go.Proofs.YtpjkbamkaicoiaaDoor.Dg
open Go.RowKit U
def qcells (q : Q) : Array Value := #[.int .u32 (u q.a), .int .u32 (u q.b), .int .u32 (u q.c), .int .u32 (u q.d)]
theorem qc0 {g : Nat} {T : TypeId} {q : Q} {w : World} (h : At g T (qcells q) w) : w.cell? ⟨g, 0, none⟩ = some (.int .u32 (u q.a)) := h.cell 0 _ rfl
theorem qc1 {g : Nat} {T : TypeId} {q : Q} {w : World} (h : At g T (qcells q) w) : w.cell? ⟨g, 1, none⟩ = some (.int .u32 (u q.b)) := h.cell 1 _ rfl
theorem qc2 {g : Nat} {T : TypeId} {q : Q} {w : World} (h : At g T (qcells q) w) : w.cell? ⟨g, 2, none⟩ = some (.int .u32 (u q.c)) := h.cell 2 _ rfl
theorem qc3 {g : Nat} {T : TypeId} {q : Q} {w : World} (h : At g T (qcells q) w) : w.cell? ⟨g, 3, none⟩ = some (.int .u32 (u q.d)) := h.cell 3 _ rfl
def kcells : Array Value := (SINES.map fun x => .int .u32 (u x)).toArray
def mcells (n : Nat) (m : Nat → UInt32) (k : Nat) : Array Value := ((List.range n).map fun i => if i < k then .int .u32 (u (m i)) else .int .u32 0).toArray
theorem mcells_at (n : Nat) (m : Nat → UInt32) (k i : Nat) (hi : i < n) (hk : i < k) : (mcells n m k)[i]? = some (.int .u32 (u (m i))) := by
  unfold mcells
  rw [List.getElem?_toArray, List.getElem?_map, List.getElem?_range hi]
  simp [hk]
theorem mcells_at0 (n : Nat) (m : Nat → UInt32) (k i : Nat) (hi : i < n) (hk : k ≤ i) : (mcells n m k)[i]? = some (.int .u32 0) := by
  unfold mcells
  rw [List.getElem?_toArray, List.getElem?_map, List.getElem?_range hi]
  simp [Nat.not_lt.2 hk]
theorem mcells_next (n : Nat) (m : Nat → UInt32) (k : Nat) (hk : k < n) : (mcells n m k).setIfInBounds k (.int .u32 (u (m k))) = mcells n m (k + 1) := by
  apply Array.ext_getElem?
  intro i
  rw [Array.getElem?_setIfInBounds]
  have hs : (mcells n m k).size = n := by unfold mcells; simp
  by_cases hki : k = i
  · subst hki
    rw [if_pos rfl, if_pos (by omega), mcells_at n m (k + 1) k hk (by omega)]
  · rw [if_neg hki]
    by_cases hin : i < n
    · by_cases h1 : i < k
      · rw [mcells_at n m k i hin h1, mcells_at n m (k + 1) i hin (by omega)]
      · rw [mcells_at0 n m k i hin (by omega), mcells_at0 n m (k + 1) i hin (by omega)]
    · rw [Array.getElem?_eq_none (by omega), Array.getElem?_eq_none (by unfold mcells; simp; omega)]
/-- The sines lie there. -/
def KAt (g : Nat) (w : World) : Prop := ∀ i, i < 64 → w.cell? ⟨g, i, none⟩ = some (.int .u32 (u (sin i)))
theorem KAt.below {g : Nat} {w w' : World} (h : KAt g w) (hb : Below w.heap.size w w') : KAt g w' := fun i hi => by
  have h1 := h i hi
  exact (hb.cell (p := ⟨g, i, none⟩) (World.block_lt_of_cell? w _ h1)).trans h1
/-- The bytes at a place of memory. -/
def Bts (g o : Nat) (b : Nat → UInt8) (w : World) : Prop := ∀ j, j < 64 → w.cell? ⟨g, o + j, none⟩ = some (.int .u8 ((b j).toNat : Int))
theorem Bts.four {g o : Nat} {b : Nat → UInt8} {w : World} (h : Bts g o b w) (k : Nat) (hk : k < 16) : Four g (o + 4 * k) (b (4 * k)) (b (4 * k + 1)) (b (4 * k + 2)) (b (4 * k + 3)) w :=
  ⟨h (4 * k) (by omega), by have := h (4 * k + 1) (by omega); rwa [show o + (4 * k + 1) = o + 4 * k + 1 by omega] at this, by have := h (4 * k + 2) (by omega); rwa [show o + (4 * k + 2) = o + 4 * k + 2 by omega] at this, by have := h (4 * k + 3) (by omega); rwa [show o + (4 * k + 3) = o + 4 * k + 3 by omega] at this⟩
theorem Bts.below {g o : Nat} {b : Nat → UInt8} {w w' : World} (h : Bts g o b w) (hb : Below w.heap.size w w') : Bts g o b w' := fun j hj => by
  have h1 := h j hj
  exact (hb.cell (p := ⟨g, o + j, none⟩) (World.block_lt_of_cell? w _ h1)).trans h1
def mOf (b : Nat → UInt8) (i : Nat) : UInt32 := wLE (b (4 * i)) (b (4 * i + 1)) (b (4 * i + 2)) (b (4 * i + 3))
def qat (q : Q) : Nat → UInt32
  | 0 => q.a
  | 1 => q.b
  | 2 => q.c
  | _ => q.d
/-- The first k words added. -/
def qmx (q r : Q) (k : Nat) : Q := ⟨if 0 < k then q.a + r.a else q.a, if 1 < k then q.b + r.b else q.b, if 2 < k then q.c + r.c else q.c, if 3 < k then q.d + r.d else q.d⟩
theorem qat_at (q : Q) (j : Nat) (h : j < 4) : (qcells q)[j]? = some (.int .u32 (u (qat q j))) := by
  match j, h with
  | 0, _ => rfl
  | 1, _ => rfl
  | 2, _ => rfl
  | 3, _ => rfl
theorem qmx_at (q r : Q) (j : Nat) (h : j < 4) : (qcells (qmx q r j))[j]? = some (.int .u32 (u (qat q j))) := by
  match j, h with
  | 0, _ => rfl
  | 1, _ => rfl
  | 2, _ => rfl
  | 3, _ => rfl
theorem qmx_next (q r : Q) (j : Nat) (h : j < 4) : (qcells (qmx q r j)).setIfInBounds j (.int .u32 (u (qat q j + qat r j))) = qcells (qmx q r (j + 1)) := by
  match j, h with
  | 0, _ => rfl
  | 1, _ => rfl
  | 2, _ => rfl
  | 3, _ => rfl
theorem grown_drew {w w' : World} {row : Option Nat} (h : w.grownBy w' row) : w.grownBy w'.drew row := ⟨h.os, h.tape, h.output, h.size, h.block⟩
set_option maxRecDepth 100000 in
set_option maxHeartbeats 4000000 in
theorem block5_any {gH gK g o L C : Nat} {q : Q} {b : Nat → UInt8} {w : World} (hH : At gH 92 (qcells q) w) (hK : KAt gK w) (hB : Bts g o b w) (hne : g ≠ gH) (hL : 64 ≤ L) (hLC : L ≤ C) (hC : C ≤ 9223372036854775807) (hKH : gK ≠ gH) :
    Calls Tryd.prog 64 #[.pointer (some ⟨gH, 0, none⟩), .slice (some ⟨g, o, none⟩) L C, .pointer (some ⟨gK, 0, none⟩)] w fun e w' => e = .returned (.tuple #[]) ∧ At gH 92 (qcells (blk5 (mOf b) q)) w' ∧ w.grownBy w' (some gH) := by
  have HH := Lib.hid hH
  have HK := Lib.hid hK
  have HBT := Lib.hid hB
  have H0 : Hid (At w.heap.size 105 (mcells 16 (mOf b) 0) (w.alloc (.cells (mcells 16 (mOf b) 0) 105))) := Lib.hid (At.new w _ _)
  have e0 : mcells 16 (mOf b) 0 = #[.int .u32 0, .int .u32 0, .int .u32 0, .int .u32 0, .int .u32 0, .int .u32 0, .int .u32 0, .int .u32 0, .int .u32 0, .int .u32 0, .int .u32 0, .int .u32 0, .int .u32 0, .int .u32 0, .int .u32 0, .int .u32 0] := rfl
  have HB0 := Lib.hid ((Below.refl w.heap.size w).alloc (Nat.le_refl _) (.cells (mcells 16 (mOf b) 0) 105))
  rw [e0] at H0 HB0
  have HE0 := Lib.hid e0
  clear hH hK hB e0
  obtain ⟨gM, hgM⟩ : ∃ x, x = w.heap.size := ⟨_, rfl⟩
  have HM := Lib.hid hgM
  go_enter Tryd.func64, Tryd.ntmps64
  go_wp2
  rw [← hgM]
  clear hgM
  go_loopw [14] (fun i wq => ∃ k : Nat, k ≤ 16 ∧ i = .int .i64 k ∧ Hid (At gM 105 (mcells 16 (mOf b) k) wq ∧ Below w.heap.size w wq)) (fun i _ => 16 - (intOf i).toNat)
  case atStart => exact ⟨0, by omega, rfl, Lib.hid ⟨by rw [HM.out, HE0.out]; exact H0.out, HB0.out⟩⟩
  case round =>
    obtain ⟨k, hk, rfl, HR⟩ := hrel
    by_cases hlt : k < 16
    · have hc1 : ¬ (C = 4 * k) := by omega
      have hc2 : 4 * (k : Int) ≤ (L : Int) := by omega
      have hc3 : 4 * (k : Int) ≤ (C : Int) := by omega
      have HW : Hid (Calls Tryd.prog 74 #[.slice (some ⟨g, o + 4 * k, none⟩) (L - 4 * k) (C - 4 * k), .bool true] wr fun e w' => e = .returned (.int .u32 (u (mOf b k))) ∧ ∃ n, w' = wr.drewN n) := Lib.hid (word_any true (L := L - 4 * k) (C := C - 4 * k) ((HBT.out.below HR.out.2).four k hlt) (by omega) (by omega))
      have c0 := HR.out.1.cell k _ (mcells_at0 16 (mOf b) k k hlt (Nat.le_refl _))
      have f0 := HR.out.1.free k
      go_wp2_with fail
      refine HW.out.mono ?_
      rintro e w5 ⟨rfl, n5, rfl⟩
      have HN : Hid (At gM 105 (mcells 16 (mOf b) (k + 1)) ((wr.setCell ⟨gM, k, none⟩ (.int .u32 (u (mOf b k)))).drewN n5) ∧ Below w.heap.size w ((wr.setCell ⟨gM, k, none⟩ (.int .u32 (u (mOf b k)))).drewN n5)) := Lib.hid (by
        have h1 := HR.out.1.set k (.int .u32 (u (mOf b k)))
        rw [mcells_next 16 (mOf b) k hlt] at h1
        exact ⟨h1.drewN n5, U.below_drewN (HR.out.2.setCell (p := ⟨gM, k, none⟩) (by rw [HM.out]; exact Nat.le_refl _) _) n5⟩)
      obtain ⟨Z, hZ⟩ : ∃ Z, Z = mOf b k := ⟨_, rfl⟩
      rw [← hZ] at HN ⊢
      clear hZ
      go_wp2
      go_roundw
      case rel => exact ⟨k + 1, by omega, by go_num, HN⟩
      case measure => simp [intOf]; omega
    · have hk16 : k = 16 := by omega
      have HR' : Hid (At gM 105 (mcells 16 (mOf b) 16) wr ∧ Below w.heap.size w wr) := Lib.hid (by have := HR.out; rw [hk16] at this; exact this)
      have hge : 16 ≤ k := by omega
      clear HR hk16 hlt hk
      have HR := HR'
      clear HR'
      have HHr := Lib.hid (HH.out.below HR.out.2)
      have hh0 := qc0 HHr.out
      have hh1 := qc1 HHr.out
      have hh2 := qc2 HHr.out
      have hh3 := qc3 HHr.out
      have HW0 : Hid (At wr.heap.size 92 (qcells (run5 (mOf b) q 0)) (wr.alloc (.cells #[.int .u32 (u q.a), .int .u32 (u q.b), .int .u32 (u q.c), .int .u32 (u q.d)] 92))) := Lib.hid (At.new wr _ _)
      have HB2 := Lib.hid (HR.out.2.alloc HR.out.2.size (.cells #[.int .u32 (u q.a), .int .u32 (u q.b), .int .u32 (u q.c), .int .u32 (u q.d)] 92))
      have HM2 := Lib.hid (HR.out.1.alloc (.cells #[.int .u32 (u q.a), .int .u32 (u q.b), .int .u32 (u q.c), .int .u32 (u q.d)] 92))
      go_wp2
      obtain ⟨gW, hgW⟩ : ∃ x, x = wr.heap.size := ⟨_, rfl⟩
      have HGW : Hid (gW = wr.heap.size ∧ w.heap.size ≤ gW ∧ gM < gW) := Lib.hid ⟨hgW, by rw [hgW]; exact HR.out.2.size, by rw [hgW]; exact HR.out.1.lt⟩
      rw [← hgW] at HW0 ⊢
      clear hgW hh0 hh1 hh2 hh3
      go_loopw [28] (fun i wq => ∃ k : Nat, k ≤ 64 ∧ i = .int .i64 k ∧ Hid (At gW 92 (qcells (run5 (mOf b) q k)) wq ∧ At gM 105 (mcells 16 (mOf b) 16) wq ∧ Below w.heap.size w wq)) (fun i _ => 64 - (intOf i).toNat)
      case atStart => exact ⟨0, by omega, rfl, Lib.hid ⟨HW0.out, HM2.out, HB2.out⟩⟩
      case round =>
        obtain ⟨k, hk, rfl, HR2⟩ := hrel
        by_cases hlt : k < 64
        · obtain ⟨Y, hY⟩ : ∃ Y, Y = run5 (mOf b) q k := ⟨_, rfl⟩
          have HY := Lib.hid hY
          have hc := HR2.out.1
          rw [← hY] at hc
          have c0 := qc0 hc
          have c1 := qc1 hc
          have c2 := qc2 hc
          have c3 := qc3 hc
          have f0 := hc.free 0
          have f1 := hc.free 1
          have f2 := hc.free 2
          have f3 := hc.free 3
          have hG : mixG k < 16 := by unfold mixG; split <;> (try split) <;> (try split) <;> omega
          have cm := HR2.out.2.1.cell (mixG k) _ (mcells_at 16 (mOf b) 16 (mixG k) hG hG)
          have ck := (HK.out.below HR2.out.2.2) k hlt
          have HMX := Lib.hid (mix_any Y.b Y.c Y.d k)
          have hbp : ∀ x y : UInt32, IntKind.u32.wrap (u x + u y) = u (x + y) := fun x y => by rw [IntKind.wrap_u32]; exact bp x y
          obtain ⟨t0, t1⟩ := trn_pos k hlt
          have HT : Hid (∀ w, Calls Tryd.prog 77 #[.int .i64 (k : Int)] w fun e w' => e = .returned (.int .i64 (trn k : Int)) ∧ w' = w) := Lib.hid (fun w => (turns_any k w hlt).mono fun e w' ⟨h1, h2⟩ => ⟨h1, h2.symm⟩)
          have HRT : Hid (∀ (x : UInt32) w, Calls Tryd.prog 76 #[.int .u32 (u x), .int .i64 (trn k : Int)] w fun e w' => e = .returned (.int .u32 (u (rotl x (trn k)))) ∧ w' = w) := Lib.hid (fun x w => (rot_any x (trn k) t0 t1 w).mono fun e w' ⟨h1, h2⟩ => ⟨h1, h2.symm⟩)
          have HST : Hid (step5 (mOf b) Y k = ⟨Y.d, Y.b + rotl (Y.a + mixF k Y.b Y.c Y.d + sin k + mOf b (mixG k)) (trn k), Y.b, Y.c⟩) := Lib.hid rfl
          obtain ⟨F, hF⟩ : ∃ F, F = mixF k Y.b Y.c Y.d := ⟨_, rfl⟩
          obtain ⟨G, hG'⟩ : ∃ G, G = mixG k := ⟨_, rfl⟩
          obtain ⟨S, hS⟩ : ∃ S, S = sin k := ⟨_, rfl⟩
          obtain ⟨T, hT⟩ : ∃ T, T = trn k := ⟨_, rfl⟩
          rw [← hF, ← hG'] at HMX
          rw [← hG'] at cm hG
          obtain ⟨MM, hMM⟩ : ∃ MM, MM = mOf b G := ⟨_, rfl⟩
          rw [← hF, ← hG', ← hS, ← hT, ← hMM] at HST
          rw [← hMM] at cm
          rw [← hS] at ck
          rw [← hT] at HT HRT
          obtain ⟨ya, yb, yc, yd⟩ := Y
          simp only at c0 c1 c2 c3 HMX HST
          clear hY hc hF hG' hS hT hMM t0 t1
          go_wp2_with fail
          refine (HMX.out wr hlt).mono ?_
          rintro e w5 ⟨rfl, rfl⟩
          go_wp2
          go_quiet (first
            | (go_at_call 77; exact Calls.quiet_of_same (HT.out _))
            | (go_at_call 76; exact Calls.quiet_of_same (HRT.out _ _)))
          have HN : Hid (∀ x : UInt32, At gW 92 (qcells ⟨yd, yb + x, yb, yc⟩) (((((wr.setCell ⟨gW, 0, none⟩ (.int .u32 (u yd))).setCell ⟨gW, 1, none⟩ (.int .u32 (u (yb + x)))).setCell ⟨gW, 2, none⟩ (.int .u32 (u yb))).setCell ⟨gW, 3, none⟩ (.int .u32 (u yc))).drewN nq) ∧
              At gM 105 (mcells 16 (mOf b) 16) (((((wr.setCell ⟨gW, 0, none⟩ (.int .u32 (u yd))).setCell ⟨gW, 1, none⟩ (.int .u32 (u (yb + x)))).setCell ⟨gW, 2, none⟩ (.int .u32 (u yb))).setCell ⟨gW, 3, none⟩ (.int .u32 (u yc))).drewN nq) ∧
              Below w.heap.size w (((((wr.setCell ⟨gW, 0, none⟩ (.int .u32 (u yd))).setCell ⟨gW, 1, none⟩ (.int .u32 (u (yb + x)))).setCell ⟨gW, 2, none⟩ (.int .u32 (u yb))).setCell ⟨gW, 3, none⟩ (.int .u32 (u yc))).drewN nq)) := Lib.hid (fun x => by
            have hc := HR2.out.1
            have hgw := HGW.out
            refine ⟨?_, ?_, ?_⟩
            · exact At.drewN ((((hc.set 0 _).set 1 _).set 2 _).set 3 _) nq
            · exact At.drewN ((((HR2.out.2.1.other ⟨gW, 0, none⟩ _ (by show gM ≠ gW; omega)).other ⟨gW, 1, none⟩ _ (by show gM ≠ gW; omega)).other ⟨gW, 2, none⟩ _ (by show gM ≠ gW; omega)).other ⟨gW, 3, none⟩ _ (by show gM ≠ gW; omega)) nq
            · exact U.below_drewN ((((HR2.out.2.2.setCell (p := ⟨gW, 0, none⟩) hgw.2.1 _).setCell (p := ⟨gW, 1, none⟩) hgw.2.1 _).setCell (p := ⟨gW, 2, none⟩) hgw.2.1 _).setCell (p := ⟨gW, 3, none⟩) hgw.2.1 _) nq)
          go_wp2
          go_roundw
          case rel => exact ⟨k + 1, by omega, by go_num, Lib.hid ⟨by rw [run5_next, ← HY.out, HST.out]; exact (HN.out _).1, (HN.out _).2.1, (HN.out _).2.2⟩⟩
          case measure => simp [intOf]; omega
        · have hk64 : k = 64 := by omega
          have HR3 : Hid (At gW 92 (qcells (run5 (mOf b) q 64)) wr ∧ Below w.heap.size w wr) := Lib.hid (by have := HR2.out; rw [hk64] at this; exact ⟨this.1, this.2.2⟩)
          have hge2 : 64 ≤ k := by omega
          have HBL : Hid (blk5 (mOf b) q = ⟨q.a + (run5 (mOf b) q 64).a, q.b + (run5 (mOf b) q 64).b, q.c + (run5 (mOf b) q 64).c, q.d + (run5 (mOf b) q 64).d⟩) := Lib.hid rfl
          obtain ⟨R, hR⟩ : ∃ R, R = run5 (mOf b) q 64 := ⟨_, rfl⟩
          rw [← hR] at HR3 HBL
          have HH3 : Hid (At gH 92 (qcells (qmx q R 0)) wr ∧ At gW 92 (qcells R) wr ∧ w.grownBy wr (some gH)) := Lib.hid ⟨HH.out.below HR3.out.2, HR3.out.1, ⟨HR3.out.2.os, HR3.out.2.tape, HR3.out.2.output, HR3.out.2.size, fun j hj _ => HR3.out.2.block j hj⟩⟩
          have HNE : Hid (¬ gH = gW ∧ ¬ gW = gH) := Lib.hid (by have h1 := HH.out.lt; have h2 := HGW.out.2.1; exact ⟨by omega, by omega⟩)
          clear hk64 hR HR2 HR3 hlt hk
          go_wp2
          go_loopw [71] (fun i wq => ∃ k : Nat, k ≤ 4 ∧ i = .int .i64 k ∧ Hid (At gH 92 (qcells (qmx q R k)) wq ∧ At gW 92 (qcells R) wq ∧ w.grownBy wq (some gH))) (fun i _ => 4 - (intOf i).toNat)
          case atStart => exact ⟨0, by omega, rfl, HH3⟩
          case round =>
            obtain ⟨j, hj, rfl, HR4⟩ := hrel
            have hbp : ∀ x y : UInt32, IntKind.u32.wrap (u x + u y) = u (x + y) := fun x y => by rw [IntKind.wrap_u32]; exact bp x y
            by_cases hlt : j < 4
            · have c1 := HR4.out.1.cell j _ (qmx_at q R j hlt)
              have c2 := HR4.out.2.1.cell j _ (qat_at R j hlt)
              have f1 := HR4.out.1.free j
              have HN : Hid (At gH 92 (qcells (qmx q R (j + 1))) ((wr.setCell ⟨gH, j, none⟩ (.int .u32 (u (qat q j + qat R j)))).drew) ∧ At gW 92 (qcells R) ((wr.setCell ⟨gH, j, none⟩ (.int .u32 (u (qat q j + qat R j)))).drew) ∧ w.grownBy ((wr.setCell ⟨gH, j, none⟩ (.int .u32 (u (qat q j + qat R j)))).drew) (some gH)) := Lib.hid (by
                have h1 := HR4.out.1.set j (.int .u32 (u (qat q j + qat R j)))
                rw [qmx_next q R j hlt] at h1
                exact ⟨At.drewN h1 1, At.drewN (HR4.out.2.1.other ⟨gH, j, none⟩ _ (HNE.out.2)) 1, grown_drew (grown_trans HR4.out.2.2 (grown_set wr gH j _))⟩)
              obtain ⟨x, hx⟩ : ∃ x, x = qat q j := ⟨_, rfl⟩
              obtain ⟨y, hy⟩ : ∃ y, y = qat R j := ⟨_, rfl⟩
              rw [← hx] at c1 HN
              rw [← hy] at c2 HN
              have p1 : ∀ z : U.In (U.Ext wr.drew), z.w.cell? ⟨gH, j, none⟩ = some (.int .u32 (u x)) := fun z => z.h _ _ c1
              have p2 : ∀ z : U.In (U.Ext wr.drew), z.w.cell? ⟨gW, j, none⟩ = some (.int .u32 (u y)) := fun z => z.h _ _ c2
              haveI : Nonempty (U.In (U.Ext wr.drew)) := ⟨⟨_, U.Ext.refl _⟩⟩
              clear hx hy
              go_wp2
              refine wp_region_ord [0, 1, 2, 3, 4, 5, 6, 7, 8, 9, 10] [] [11] (by kernel_rfl) (by kernel_rfl) (by kernel_rfl) ?_
              simp only [List.cons_append, List.nil_append, List.filterMap_cons, List.filterMap_nil, List.getElem?_toArray, List.getElem?_cons_succ, List.getElem?_cons_zero]
              change wpQuiet _ _ _ _ [_, _, _, _, _, _, _, _, _, _, _] _
              repeat go_big_quiet_step (fail)
              refine wpQuiet_nil ?_
              clear p1 p2 this
              unfold U.Ends
              change wpList _ _ _ [_] _ _
              go_wp2
              go_roundw
              case rel => exact ⟨j + 1, by omega, by go_num, HN⟩
              case measure => simp [intOf]; omega
            · have hj4 : j = 4 := by omega
              go_wp2
              go_end0
              refine ⟨rfl, ?_, HR4.out.2.2⟩
              rw [HBL.out]
              have := HR4.out.1
              rw [hj4] at this
              exact this
end Go.Proofs.YtpjkbamkaicoiaaDoor.Dg
end

section
/- digest: MD5. -/
set_option linter.unusedVariables false
set_option linter.unusedSimpArgs false
set_option maxRecDepth 100000
namespace Go.Proofs.YtpjkbamkaicoiaaDoor.Dg
open Go.RowKit U
def Z64 : Array Value := (List.replicate 64 (.int .u32 0)).toArray
theorem alloc64 (w : World) : (Instr.alloc 93 true (.tuple #[])).run Tryd.prog w = .ok (.pointer (some ⟨w.heap.size, 0, none⟩)) (w.alloc (.cells Z64 93)) := by kernel_rfl
theorem size64 : (Tryd.prog.info? 93).map (·.size) = some kcells.size := by kernel_rfl
theorem one64 : kcells.all (·.oneCell') = true := by kernel_rfl
theorem there64 (w : World) : (w.alloc (.cells Z64 93)).there w.heap.size 0 kcells.size := by
  intro j hj
  have hs : kcells.size = 64 := by kernel_rfl
  rw [hs] at hj
  rw [Nat.zero_add]
  refine ⟨?_, (At.new w _ _).free j⟩
  rw [(At.new w 93 Z64).cell j (.int .u32 0) (by unfold Z64; rw [List.getElem?_toArray, List.getElem?_replicate, if_pos hj])]; rfl
theorem range64 (w : World) : ((w.alloc (.cells Z64 93)).setCells w.heap.size 0 kcells.toList).rangeAt w.heap.size 0 kcells.toList :=
  World.rangeAt_setCells_same _ _ _ _ (there64 w)
theorem kat_range {g : Nat} {w : World} (h : w.rangeAt g 0 kcells.toList) : KAt g w := fun i hi => by
  have h1 := h i (.int .u32 (u (sin i))) (by
    unfold kcells sin
    have hl : SINES.length = 64 := rfl
    rw [List.getElem?_map, List.getElem?_eq_getElem (by omega), List.getD_eq_getElem?_getD, List.getElem?_eq_getElem (by omega)]; rfl)
  rwa [Nat.zero_add] at h1
theorem below64 (w : World) : Below w.heap.size w ((w.alloc (.cells Z64 93)).setCells w.heap.size 0 kcells.toList) :=
  ((Below.refl _ _).alloc (Nat.le_refl _) _).grown (grown_sets _ _ _ _) (by simp) (fun k hk => by injection hk with hk; omega)
theorem results_cell {P : Program} {fn : Func} {t : Tmp} {ty : TypeId} {tmps : Array Value} {a : Addr} {v : Value} {w : World} (h : fn.results = #[.cell t ty]) (ha : tmps.getD t undef = .pointer (some a)) (hl : (loadVar ty a).run P w = .ok v w) : (results fn tmps).run P w = .ok v w := by
  rw [Array.getD_eq_getD_getElem?] at ha
  unfold results
  rw [h]
  simp [ha, asAddr, hl]
end Go.Proofs.YtpjkbamkaicoiaaDoor.Dg
end

section
/- digest: the sines. -/
set_option linter.unusedVariables false
set_option linter.unusedSimpArgs false
set_option maxRecDepth 100000
namespace Go.Proofs.YtpjkbamkaicoiaaDoor.Dg
open Go.RowKit U
/-- An operation that is run to its value. -/
theorem wpList_run {P : Program} {ops : Array Oper} {Q : Exit → Act → World → Prop} {rest : List Oper} {o : Oper} {a : Act} {w w' : World} {v : Value} (hgd : o.guard = none) (hr : (execOp a.eval o).run P w = .ok (.value v) w') (h : wpList P ops Q rest (a.put o.dst v) w') : wpList P ops Q (o :: rest) a w :=
  wpList_plain hgd fun _ hK => by unfold Oper.wp; rw [hr]; exact hK _ _ h
set_option maxRecDepth 100000 in
set_option maxHeartbeats 4000000 in
theorem sines_any (w : World) : Calls Tryd.prog 62 #[] w fun e w' => e = .returned (.agg kcells) ∧ Below w.heap.size w w' := by
  go_enter Tryd.func62, Tryd.ntmps62
  refine wp_seq ?_
  refine wp_region_lit ?_
  refine wpList_run rfl (v := .pointer (some ⟨w.heap.size, 0, none⟩)) (w' := w.alloc (.cells Z64 93)) (by kernel_rfl) ?_
  refine wpList_nil ?_
  refine wp_seq ?_
  refine wp_region_lit ?_
  refine wpList_run rfl (v := .agg kcells) (w' := w.alloc (.cells Z64 93)) (by kernel_rfl) ?_
  refine wpList_store_mid rfl 93 (.tmp 0) (.tmp 1) rfl w.heap.size 0 kcells rfl rfl (there64 w) size64 one64 ?_
  refine wpList_nil ?_
  refine wp_ret ?_
  refine bodyPost_ret (v := .agg kcells) ?_ rfl ⟨rfl, below64 w⟩
  exact results_cell rfl rfl (run_loadVar_mid (P := Tryd.prog) _ w.heap.size 0 93 kcells.toList _ (range64 w) Tryd.underlying93 rfl (by rw [Array.length_toList]; exact size64))
end Go.Proofs.YtpjkbamkaicoiaaDoor.Dg
end

section
/- digest: MD5 of a text. -/
set_option linter.unusedVariables false
set_option linter.unusedSimpArgs false
set_option maxRecDepth 100000
namespace Go.Proofs.YtpjkbamkaicoiaaDoor.Dg
open Go.RowKit U
theorem wpList_alloc64 {ops : Array Oper} {Q : Exit → Act → World → Prop} {rest : List Oper} {o : Oper} {a : Act} {w : World} (hgd : o.guard = none) (ho : o.op = Op.alloc 93)
    (h : wpList Tryd.prog ops Q rest (a.put o.dst (.pointer (some ⟨w.heap.size, 0, none⟩))) (w.alloc (.cells Z64 93))) : wpList Tryd.prog ops Q (o :: rest) a w :=
  wpList_run hgd (v := .pointer (some ⟨w.heap.size, 0, none⟩)) (w' := w.alloc (.cells Z64 93)) (by unfold execOp; simp only [ho, Sem.run_bind, alloc64, Result.andThen_ok, Sem.run_pure]) h
theorem fill64 (l : List UInt8) (b : Bool) : 64 ≤ (fill l b).length ∧ (fill l b).length % 64 = 0 := by rw [fill_length]; omega
def gd (l : List UInt8) (o : Nat) (j : Nat) : UInt8 := l.getD (o + j) 0
theorem mOf_gd (l : List UInt8) (n : Nat) : mOf (gd l (64 * n)) = fun i => wdLE l (64 * n + 4 * i) := by
  funext i
  unfold mOf wdLE gd
  simp only [Nat.add_assoc]
theorem KAt.grown {g : Nat} {w w' : World} {row : Option Nat} (h : KAt g w) (hg : w.grownBy w' row) (hne : some g ≠ row) : KAt g w' := fun i hi => hg.cell (h i hi) hne
theorem At.grown {g : Nat} {T : TypeId} {cs : Array Value} {w w' : World} {row : Option Nat} (h : At g T cs w) (hg : w.grownBy w' row) (hne : some g ≠ row) : At g T cs w' := (hg.block g h.lt hne).trans h
def pre5 (q : Q) (k : Nat) : List UInt8 := ((List.range k).map fun i => (be4 (qat q i)).reverse).flatten
theorem pre5_next (q : Q) (k : Nat) : pre5 q (k + 1) = pre5 q k ++ (be4 (qat q k)).reverse := by simp [pre5, List.range_succ]
theorem pre5_length (q : Q) (k : Nat) : (pre5 q k).length = 4 * k := by
  induction k with
  | zero => rfl
  | succ k ih =>
    have h4 : ((be4 (qat q k)).reverse).length = 4 := rfl
    rw [pre5_next, List.length_append, ih, h4]; omega
theorem bts_of {g cp n B j : Nat} {L : List UInt8} {w : World} (h : Soft w B (.slice (some ⟨g, 0, none⟩) n cp) n (bv L)) (hl : L.length = n) (hj : 64 * j + 64 ≤ n) : Bts g (64 * j) (gd L (64 * j)) w := fun i hi => by
  have h1 := h.cellAt (64 * j + i) _ (bv_at L (64 * j + i) (by omega))
  rw [h1]
  unfold gd
  rw [List.getD_eq_getElem?_getD, List.getElem?_eq_getElem (by omega)]; rfl
theorem idx4 (q : Q) (k : Nat) (hk : k < 4) (w : World) : (Instr.index 92 (.agg (qcells q)) (.int .i64 (k : Int))).run Tryd.prog w = .ok (.int .u32 (u (qat q k))) w :=
  U.run_index_arr (P := Tryd.prog) 92 76 4 (qcells q) k _ Tryd.underlying92 Tryd.isAgg76 Tryd.sizeOf76 hk (qat_at q k hk)
set_option maxRecDepth 100000 in
set_option maxHeartbeats 2000000 in
theorem Md5_any (s : ByteArray) (hs : s.size ≤ 50000) (w : World) : Calls Tryd.prog 42 #[.string s] w fun e w' => e = .returned (.string ⟨(md5 s.data.toList).toArray⟩) ∧ Below w.heap.size w w' := by
  have HSN := Lib.hid sines_any
  have HFL := Lib.hid (filled_any true s hs)
  have HMD : Hid (md5 s.data.toList = (be4 (rounds5 (fill s.data.toList true) ((fill s.data.toList true).length / 64)).a).reverse ++ (be4 (rounds5 (fill s.data.toList true) ((fill s.data.toList true).length / 64)).b).reverse ++ (be4 (rounds5 (fill s.data.toList true) ((fill s.data.toList true).length / 64)).c).reverse ++ (be4 (rounds5 (fill s.data.toList true) ((fill s.data.toList true).length / 64)).d).reverse) := Lib.hid rfl
  obtain ⟨D, hD⟩ : ∃ D, D = md5 s.data.toList := ⟨_, rfl⟩
  rw [← hD] at HMD ⊢
  clear hD
  obtain ⟨h64, h65⟩ := fill64 s.data.toList true
  have hlen : (fill s.data.toList true).length ≤ 60000 := by rw [fill_length]; have := U.len_data s; omega
  obtain ⟨L, hL⟩ : ∃ L, L = fill s.data.toList true := ⟨_, rfl⟩
  rw [← hL] at HFL HMD h64 h65 hlen
  clear hL
  obtain ⟨n, hn⟩ : ∃ n, L.length = 64 * n := ⟨L.length / 64, by omega⟩
  rw [show L.length / 64 = n by omega] at HMD
  have HLN := Lib.hid hn
  have hn1 : 1 ≤ n := by omega
  have hn2 : n ≤ 1000 := by omega
  have HH0 : Hid (At w.heap.size 92 (qcells (rounds5 L 0)) (w.alloc (.cells #[.int .u32 1732584193, .int .u32 4023233417, .int .u32 2562383102, .int .u32 271733878] 92))) := Lib.hid (At.new w _ _)
  have HB0 := Lib.hid ((Below.refl w.heap.size w).alloc (Nat.le_refl _) (.cells #[.int .u32 1732584193, .int .u32 4023233417, .int .u32 2562383102, .int .u32 271733878] 92))
  clear h64 h65 hlen hn
  go_enter Tryd.func42, Tryd.ntmps42
  go_wp2_with fail
  refine (HSN.out _).mono ?_
  rintro e w1 ⟨rfl, hb1⟩
  have HH1 := Lib.hid (HH0.out.below hb1)
  have HB1 := Lib.hid (HB0.out.trans (hb1.mono HB0.out.size))
  clear hb1
  go_wp2_with (first
    | (with_reducible refine wpList_alloc64 rfl rfl ?_)
    | ((with_reducible refine wpList_store_mid rfl 93 (.tmp 4) (.tmp 10) rfl w1.heap.size 0 kcells ?_ ?_ (there64 w1) size64 one64 ?_)
       · rfl
       · rfl))
  have HX2 : Hid (At w.heap.size 92 (qcells (rounds5 L 0)) ((w1.alloc (.cells Z64 93)).setCells w1.heap.size 0 kcells.toList) ∧ KAt w1.heap.size ((w1.alloc (.cells Z64 93)).setCells w1.heap.size 0 kcells.toList) ∧ Below w.heap.size w ((w1.alloc (.cells Z64 93)).setCells w1.heap.size 0 kcells.toList) ∧ w.heap.size < w1.heap.size ∧ w1.heap.size < ((w1.alloc (.cells Z64 93)).setCells w1.heap.size 0 kcells.toList).heap.size) := Lib.hid
    ⟨HH1.out.below (below64 w1), kat_range (range64 w1), HB1.out.trans ((below64 w1).mono HB1.out.size), HH1.out.lt, Nat.lt_of_lt_of_le (show w1.heap.size < (w1.alloc (.cells Z64 93)).heap.size by simp) (grown_sets _ _ _ _).size⟩
  obtain ⟨w2, hw2⟩ : ∃ w2, w2 = ((w1.alloc (.cells Z64 93)).setCells w1.heap.size 0 kcells.toList) := ⟨_, rfl⟩
  rw [← hw2] at HX2 ⊢
  obtain ⟨gH, hgH⟩ : ∃ g, g = w.heap.size := ⟨_, rfl⟩
  obtain ⟨gK, hgK⟩ : ∃ g, g = w1.heap.size := ⟨_, rfl⟩
  have HGH := Lib.hid hgH
  rw [← hgK] at HX2 ⊢
  rw [← hgH] at HX2 ⊢
  clear hw2 hgK hgH
  refine (HFL.out _).mono ?_
  rintro e w3 ⟨g, cp, rfl, h3, hb3⟩
  unfold BR at h3
  rw [HLN.out] at h3 ⊢
  obtain ⟨hcp1, _, hcp2⟩ := h3.cap_ge
  have hgB : w2.heap.size ≤ g := by
    obtain ⟨g', cp', e, hh, _⟩ := h3.form (by omega)
    injection e with e _ _; injection e with e; injection e with e; rw [e]; exact hh
  have HX3 : Hid (At gH 92 (qcells (rounds5 L 0)) w3 ∧ Soft w3 w2.heap.size (.slice (some ⟨g, 0, none⟩) (64 * n) cp) (64 * n) (bv L) ∧ KAt gK w3 ∧ Below w.heap.size w w3) := Lib.hid
    ⟨HX2.out.1.below hb3, h3, HX2.out.2.1.below hb3, by rw [← HGH.out]; exact HX2.out.2.2.1.trans (hb3.mono (by have := HX2.out.2.2.2; omega))⟩
  have HNE : Hid (g ≠ gH ∧ gK ≠ gH ∧ w.heap.size ≤ gH) := Lib.hid (by
    have h5 := HX2.out.2.2.2
    have h6 := HGH.out
    exact ⟨by omega, by omega, by omega⟩)
  have hm : maxLen = 9223372036854775807 := by decide
  rw [hm] at hcp2
  clear h3 hb3 hgB hm
  go_wp2
  go_loopw [5] (fun v wq => ∃ (j o C : Nat), j ≤ n ∧ v = .slice (some ⟨g, o, none⟩) (64 * (n - j)) C ∧ (j < n → o = 64 * j ∧ 64 * (n - j) ≤ C) ∧ C ≤ 9223372036854775807 ∧ Hid (At gH 92 (qcells (rounds5 L j)) wq ∧ Soft wq w2.heap.size (.slice (some ⟨g, 0, none⟩) (64 * n) cp) (64 * n) (bv L) ∧ KAt gK wq ∧ Below w.heap.size w wq)) (fun v _ => match v with | .slice _ l _ => l | _ => 0)
  case atStart => exact ⟨0, 0, cp, by omega, rfl, fun _ => ⟨rfl, by omega⟩, hcp2, HX3⟩
  case round =>
    obtain ⟨j, o, C, hj, rfl, ho, hC, HR⟩ := hrel
    by_cases hlt : j < n
    · obtain ⟨rfl, hLC⟩ := ho hlt
      have HBK := Lib.hid (block5_any (L := 64 * (n - j)) (C := C) HR.out.1 HR.out.2.2.1 (bts_of (j := j) HR.out.2.1 HLN.out (by omega)) HNE.out.1 (by omega) hLC hC HNE.out.2.1)
      obtain ⟨M, hM⟩ : ∃ M, M = n - j := ⟨_, rfl⟩
      have hM1 : 1 ≤ M := by omega
      have hM2 : M ≤ 1000 := by omega
      rw [← hM] at HBK hLC ⊢
      have HMJ := Lib.hid hM
      clear hM ho
      have l0 : (0 : Int) < 64 * (M : Int) := by omega
      have l1 : (64 : Int) ≤ 64 * (M : Int) := by omega
      have l2 : (64 : Int) ≤ (C : Int) := by omega
      by_cases hC64 : C = 64
      · subst hC64
        go_wp2_with fail
        refine HBK.out.mono ?_
        rintro e w5 ⟨rfl, h5, hg5⟩
        have HN : Hid (At gH 92 (qcells (rounds5 L (j + 1))) w5 ∧ Soft w5 w2.heap.size (.slice (some ⟨g, 0, none⟩) (64 * n) cp) (64 * n) (bv L) ∧ KAt gK w5 ∧ Below w.heap.size w w5) := Lib.hid
          ⟨by rw [rounds5_next, ← mOf_gd]; exact h5, HR.out.2.1.kept hg5 (fun b hb e => by injection hb with hb; injection e with e; exact HNE.out.1 (hb.trans e.symm)), HR.out.2.2.1.grown hg5 (fun e => by injection e with e; exact HNE.out.2.1 e), HR.out.2.2.2.grown hg5 HR.out.2.2.2.size (fun b hb => by injection hb with hb; rw [← hb]; exact HNE.out.2.2)⟩
        clear h5 hg5 HBK
        go_wp2
        go_roundw
        case rel => exact ⟨j + 1, 64 * j, 0, by omega, by rw [show n - (j + 1) = M - 1 by have := HMJ.out; omega]; congr 1; omega, fun h => by have := HMJ.out; omega, by omega, HN⟩
        case measure => simp; omega
      · go_wp2_with fail
        refine HBK.out.mono ?_
        rintro e w5 ⟨rfl, h5, hg5⟩
        have HN : Hid (At gH 92 (qcells (rounds5 L (j + 1))) w5 ∧ Soft w5 w2.heap.size (.slice (some ⟨g, 0, none⟩) (64 * n) cp) (64 * n) (bv L) ∧ KAt gK w5 ∧ Below w.heap.size w w5) := Lib.hid
          ⟨by rw [rounds5_next, ← mOf_gd]; exact h5, HR.out.2.1.kept hg5 (fun b hb e => by injection hb with hb; injection e with e; exact HNE.out.1 (hb.trans e.symm)), HR.out.2.2.1.grown hg5 (fun e => by injection e with e; exact HNE.out.2.1 e), HR.out.2.2.2.grown hg5 HR.out.2.2.2.size (fun b hb => by injection hb with hb; rw [← hb]; exact HNE.out.2.2)⟩
        clear h5 hg5 HBK
        go_wp2
        go_roundw
        case rel => exact ⟨j + 1, 64 * j + 64, C - 64, by omega, by rw [show n - (j + 1) = M - 1 by have := HMJ.out; omega]; congr 1; omega, fun h => ⟨by omega, by have := HMJ.out; omega⟩, by omega, HN⟩
        case measure => simp; omega
    · have hjn : j = n := by omega
      have hq : Hid (At gH 92 (qcells (rounds5 L n)) wr ∧ Below w.heap.size w wr) := Lib.hid (by rw [← hjn]; exact ⟨HR.out.1, HR.out.2.2.2⟩)
      obtain ⟨R, hR⟩ : ∃ R, R = rounds5 L n := ⟨_, rfl⟩
      have HD : Hid (D = pre5 R 4) := Lib.hid (by rw [HMD.out, ← hR]; simp [pre5, List.range_succ, qat])
      rw [← hR] at hq
      have hz : n - j = 0 := by omega
      rw [hz, Nat.mul_zero]
      have c0 := qc0 hq.out.1
      have c1 := qc1 hq.out.1
      have c2 := qc2 hq.out.1
      have c3 := qc3 hq.out.1
      have HI := Lib.hid (idx4 R)
      have hix : ∀ (k : Nat) (hk : k < 4) (w : World), (Instr.index 92 (.agg #[.int .u32 (u R.a), .int .u32 (u R.b), .int .u32 (u R.c), .int .u32 (u R.d)]) (.int .i64 (k : Int))).run Tryd.prog w = .ok (.int .u32 (u (qat R k))) w := fun k hk w => HI.out k hk w
      have HIX := Lib.hid hix
      clear hR hjn hlt ho hj hix hz
      go_wp2
      go_loopw [6, 21] (fun v i wq => ∃ k : Nat, k ≤ 4 ∧ i = .int .i64 k ∧ Hid (Soft wq w.heap.size v (4 * k) (bv (pre5 R k)) ∧ Below w.heap.size w wq)) (fun _ i _ => 4 - (intOf i).toNat)
      case atStart => exact ⟨0, by omega, rfl, Lib.hid ⟨Soft.nil _ _, hq.out.2⟩⟩
      case round =>
        obtain ⟨k, hk, rfl, HS⟩ := hrel
        by_cases hk4 : k < 4
        · have hx := HIX.out k hk4
          have HA : Hid (Calls Tryd.prog 65 #[u6, .int .u32 (u (qat R k)), .bool true] wr (AppPost w.heap.size u6 (pre5 R k ++ (be4 (qat R k)).reverse) wr)) := Lib.hid (app_any true (by unfold BR; rw [pre5_length]; exact HS.out.1) HS.out.2.size (by rw [pre5_length]; omega) (qat R k))
          have HP : Hid (pre5 R k ++ (be4 (qat R k)).reverse = pre5 R (k + 1) ∧ (pre5 R (k + 1)).length = 4 * (k + 1)) := Lib.hid ⟨(pre5_next R k).symm, pre5_length R (k + 1)⟩
          rw [HP.out.1] at HA
          obtain ⟨y, hy⟩ : ∃ y, y = qat R k := ⟨_, rfl⟩
          rw [← hy] at hx HA
          clear hy
          go_wp2_with fail
          refine HA.out.mono ?_
          rintro e w5 ⟨g5, cp5, rfl, h5, hg5⟩
          have HN : Hid (Soft w5 w.heap.size (.slice (some ⟨g5, 0, none⟩) (4 * (k + 1)) cp5) (4 * (k + 1)) (bv (pre5 R (k + 1))) ∧ Below w.heap.size w w5) := Lib.hid ⟨by unfold BR at h5; rw [HP.out.2] at h5; exact h5, grown_below HS.out.2 HS.out.1 hg5⟩
          rw [HP.out.2]
          clear h5 hg5 hx
          go_wp2
          go_roundw
          case rel => exact ⟨k + 1, by omega, by go_num, HN⟩
          case measure => simp [intOf]; omega
        · have hkk : k = 4 := by omega
          subst hkk
          obtain ⟨g5, cp5, rfl, hg5⟩ := HS.out.1.form (by omega)
          have hl16 : (pre5 R 4).length = 16 := pre5_length R 4
          have hcv := run_convert_bytes_back (P := Tryd.prog) wr 79 9 5 ⟨g5, 0, none⟩ cp5 (pre5 R 4) Tryd.underlying79 Tryd.underlying5 Tryd.underlying9 (fun j hj => by
            rw [addz]
            exact HS.out.1.cellAt j _ (bv_at _ j hj))
          rw [hl16, ← HD.out] at hcv
          clear hl16
          go_wp2
          go_ret
          exact ⟨rfl, HS.out.2⟩
end Go.Proofs.YtpjkbamkaicoiaaDoor.Dg
end

section
/- wharfref07: the table, bytes of words. -/
set_option linter.unusedVariables false
set_option linter.unusedSimpArgs false
set_option maxRecDepth 100000
namespace Go.Proofs.YtpjkbamkaicoiaaDoor.Dg
open Go.RowKit U
theorem table_any (w : World) : Calls Tryd.prog 44 #[] w fun e w' => e = .returned (.slice (some ⟨w.heap.size, 0, none⟩) 64 64) ∧ w' = w.alloc (.cells kcells 76) := by
  go_enter Tryd.func44, Tryd.ntmps44
  refine wp_seq ?_
  refine wp_region_lit ?_
  refine wpList_run rfl (v := .slice none 0 0) (w' := w) (by kernel_rfl) ?_
  refine wpList_nil ?_
  refine wp_seq ?_
  refine wp_region_lit ?_
  refine wpList_run rfl (v := .slice (some ⟨w.heap.size, 0, none⟩) 64 64) (w' := w.alloc (.cells kcells 76)) (by kernel_rfl) ?_
  refine wpList_run rfl (v := .slice (some ⟨w.heap.size, 0, none⟩) 64 64) (w' := w.alloc (.cells kcells 76)) (by kernel_rfl) ?_
  refine wpList_nil ?_
  refine wp_ret ?_
  exact bodyPost_ret (results_tmp rfl _ _ _) rfl ⟨rfl, rfl⟩
theorem kat_new (w : World) : KAt w.heap.size (w.alloc (.cells kcells 76)) := fun i hi => by
  refine (At.new w 76 kcells).cell i _ ?_
  unfold kcells sin
  have hl : SINES.length = 64 := rfl
  rw [List.getElem?_toArray, List.getElem?_map, List.getElem?_eq_getElem (by omega), List.getD_eq_getElem?_getD, List.getElem?_eq_getElem (by omega)]
  rfl
def bytes4 (least : Bool) (x : UInt32) : List UInt8 := if least then (be4 x).reverse else be4 x
theorem bytes4_at (least : Bool) (x : UInt32) (k : Nat) (hk : k < 4) : (bytes4 least x).take (k + 1) = (bytes4 least x).take k ++ [(x >>> UInt32.ofNat (8 * (if least then k else 3 - k))).toUInt8] := by
  have h0 : x >>> (0 : UInt32) = x := by apply UInt32.toNat_inj.1; rw [UInt32.toNat_shiftRight]; rfl
  match k, hk with
  | 0, _ => cases least <;> simp [bytes4, be4, h0]
  | 1, _ => cases least <;> simp [bytes4, be4, h0]
  | 2, _ => cases least <;> simp [bytes4, be4, h0]
  | 3, _ => cases least <;> simp [bytes4, be4, h0]
theorem bytes4_len (least : Bool) (x : UInt32) : (bytes4 least x).length = 4 := by cases least <;> rfl
/-- The bytes of the first i words. -/
def flatB (least : Bool) (ws : List UInt32) (i : Nat) : List UInt8 := ((ws.take i).map (bytes4 least)).flatten
theorem flatB_next (least : Bool) (ws : List UInt32) (i : Nat) (h : i < ws.length) : flatB least ws (i + 1) = flatB least ws i ++ bytes4 least ws[i] := by
  unfold flatB
  rw [List.take_succ_eq_append_getElem h, List.map_append, List.flatten_append]; simp
theorem flatB_len (least : Bool) (ws : List UInt32) : ∀ i, i ≤ ws.length → (flatB least ws i).length = 4 * i
  | 0, _ => rfl
  | i + 1, h => by rw [flatB_next least ws i (by omega), List.length_append, flatB_len least ws i (by omega), bytes4_len]; omega
set_option maxRecDepth 100000 in
set_option maxHeartbeats 2000000 in
theorem rbytes_any (least : Bool) (ws : List UInt32) (hN : ws.length ≤ 5) (hN1 : 1 ≤ ws.length) {g cp : Nat} {w : World} (hW : ∀ i x, ws[i]? = some x → w.cell? ⟨g, i, none⟩ = some (.int .u32 (u x))) :
    Calls Tryd.prog 49 #[.slice (some ⟨g, 0, none⟩) ws.length cp, .bool least] w fun e w' => e = .returned (.string ⟨(flatB least ws ws.length).toArray⟩) ∧ Below w.heap.size w w' := by
  have HW := Lib.hid hW
  clear hW
  obtain ⟨N, hn⟩ : ∃ N, N = ws.length := ⟨_, rfl⟩
  rw [← hn] at hN hN1 ⊢
  have HN := Lib.hid hn
  clear hn
  obtain ⟨i0, hi, hz0, hz1, hz2⟩ := info_parts infoU8
  go_enter Tryd.func49, Tryd.ntmps49
  go_wp2
  go_loopw [5, 6] (fun v i wq => ∃ k : Nat, k ≤ N ∧ i = .int .i64 k ∧ Hid (Soft wq w.heap.size v (4 * k) (bv (flatB least ws k)) ∧ Below w.heap.size w wq)) (fun _ i _ => N - (intOf i).toNat)
  case atStart => exact ⟨0, by omega, rfl, Lib.hid ⟨Soft.nil _ _, Below.refl _ _⟩⟩
  case round =>
    obtain ⟨k, hk, rfl, HS⟩ := hrel
    by_cases hlt : k < N
    · have hkl : k < ws.length := by rw [← HN.out]; exact hlt
      obtain ⟨X, hX⟩ : ∃ X, X = ws[k] := ⟨_, rfl⟩
      have HXW : Hid (w.cell? ⟨g, k, none⟩ = some (.int .u32 (u X))) := Lib.hid (HW.out k X (by rw [hX]; exact List.getElem?_eq_getElem hkl))
      have HFN : Hid (flatB least ws (k + 1) = flatB least ws k ++ bytes4 least X) := Lib.hid (by rw [hX]; exact flatB_next least ws k hkl)
      have HFL : Hid ((flatB least ws k).length = 4 * k) := Lib.hid (flatB_len least ws k (by omega))
      have HS0 : Hid (Soft wr w.heap.size u5 (4 * k + 0) (bv (flatB least ws k ++ (bytes4 least X).take 0)) ∧ Below w.heap.size w wr) := Lib.hid (by rw [List.take_zero, List.append_nil]; exact HS.out)
      clear hX hkl
      go_wp2
      go_loopw [5, 7] (fun v i wq => ∃ j : Nat, j ≤ 4 ∧ i = .int .i64 j ∧ Hid (Soft wq w.heap.size v (4 * k + j) (bv (flatB least ws k ++ (bytes4 least X).take j)) ∧ Below w.heap.size w wq)) (fun _ i _ => 4 - (intOf i).toNat)
      case atStart => exact ⟨0, by omega, rfl, HS0⟩
      case round =>
        obtain ⟨j, hj, rfl, HS2⟩ := hrel
        by_cases hj4 : j < 4
        · obtain ⟨q, hq⟩ : ∃ q, q = (if least then j else 3 - j) := ⟨_, rfl⟩
          have hq3 : q < 4 := by rw [hq]; split <;> omega
          have HB : Hid (u X / (2 : Int) ^ (8 * q) % (256 : Int) = (((X >>> UInt32.ofNat (8 * q)).toUInt8).toNat : Int)) := Lib.hid (bAt X (8 * q) (by omega))
          have HNX : Hid (bv (flatB least ws k ++ (bytes4 least X).take (j + 1)) = bv (flatB least ws k ++ (bytes4 least X).take j) ++ [.int .u8 (u X / 2 ^ (8 * q) % 256)]) := Lib.hid (by
            rw [bytes4_at least X j hj4, ← List.append_assoc, bv_append, ← hq, HB.out]; rfl)
          have cx := (U.bcell HS2.out.2).1 g k (World.block_lt_of_cell? w _ HXW.out)
          rw [HXW.out] at cx
          have h7 := HS2.out.1.below ((Below.refl wr.heap.size wr).alloc (Nat.le_refl _) (.cells #[.int .u8 (u X / 2 ^ (8 * q) % 256)] 5))
          have HC := Lib.hid (lit_cells wr [.int .u8 (u X / 2 ^ (8 * q) % 256)] 5)
          have hsz := HS2.out.2.size
          have HB7 := Lib.hid (HS2.out.2.alloc (show w.heap.size ≤ wr.heap.size by omega) (.cells #[.int .u8 (u X / 2 ^ (8 * q) % 256)] 5))
          have H7 := Lib.hid h7
          cases least with
          | true =>
            have hqj : q = j := by rw [hq]; rfl
            subst hqj
            clear hq
            go_wp2_with (at_builtin; refine wpList_append_soft _ rfl _ _ 79 rfl w.heap.size 5 i0 (.int .u8 0) 1 Tryd.underlying79 hi hz0 hz1 hz2 rfl _ _ _ rfl h7 ⟨wr.heap.size, 0, none⟩ 1 1 [.int .u8 (u X / 2 ^ (8 * q) % 256)] rfl rfl ?c1 ?c2 ?c3 ?c4 ?c5 ?_)
            case c1 => exact HC.out
            case c2 =>
              intro z hz
              rw [List.mem_singleton] at hz
              rw [hz]; rfl
            case c3 => simp only [maxLen]; omega
            case c4 => omega
            case c5 => simp; omega
            intro v' w6 hown' hgrow
            have HB6 := Lib.hid (grown_below HB7.out H7.out hgrow)
            rw [← HNX.out] at hown'
            have HO6 := Lib.hid hown'
            clear hown' hgrow h7 cx
            go_wp2
            go_roundw
            case rel => exact ⟨q + 1, by omega, by go_num, Lib.hid ⟨HO6.out, HB6.out⟩⟩
            case measure => simp [intOf]; omega
          | false =>
            have hqj : (3 : Int) - (j : Int) = (q : Int) := by rw [hq]; simp; omega
            clear hq
            go_wp2_with (at_builtin; refine wpList_append_soft _ rfl _ _ 79 rfl w.heap.size 5 i0 (.int .u8 0) 1 Tryd.underlying79 hi hz0 hz1 hz2 rfl _ _ _ rfl h7 ⟨wr.heap.size, 0, none⟩ 1 1 [.int .u8 (u X / 2 ^ (8 * q) % 256)] rfl rfl ?c1 ?c2 ?c3 ?c4 ?c5 ?_)
            case c1 => exact HC.out
            case c2 =>
              intro z hz
              rw [List.mem_singleton] at hz
              rw [hz]; rfl
            case c3 => simp only [maxLen]; omega
            case c4 => omega
            case c5 => simp; omega
            intro v' w6 hown' hgrow
            have HB6 := Lib.hid (grown_below HB7.out H7.out hgrow)
            rw [← HNX.out] at hown'
            have HO6 := Lib.hid hown'
            clear hown' hgrow h7 cx hqj
            go_wp2
            go_roundw
            case rel => exact ⟨j + 1, by omega, by go_num, Lib.hid ⟨HO6.out, HB6.out⟩⟩
            case measure => simp [intOf]; omega
        · have hj44 : j = 4 := by omega
          have HS3 : Hid (Soft wr w.heap.size u5 (4 * (k + 1)) (bv (flatB least ws (k + 1))) ∧ Below w.heap.size w wr) := Lib.hid (by
            have := HS2.out
            rw [hj44, List.take_of_length_le (by rw [bytes4_len]; exact Nat.le_refl _), ← HFN.out] at this
            exact this)
          go_wp2
          go_roundw
          case rel => exact ⟨k + 1, by omega, by go_num, HS3⟩
          case measure => simp [intOf]; omega
    · have hkk : k = N := by omega
      subst hkk
      obtain ⟨g5, cp5, rfl, hg5⟩ := HS.out.1.form (by omega)
      have hl : (flatB least ws k).length = 4 * k := flatB_len least ws k (by have := HN.out; omega)
      have hcv := run_convert_bytes_back (P := Tryd.prog) wr 79 9 5 ⟨g5, 0, none⟩ cp5 (flatB least ws k) Tryd.underlying79 Tryd.underlying5 Tryd.underlying9 (fun j hj => by
        rw [addz]
        exact HS.out.1.cellAt j _ (bv_at _ j hj))
      rw [hl] at hcv
      go_wp2
      go_ret
      exact ⟨rfl, HS.out.2⟩
end Go.Proofs.YtpjkbamkaicoiaaDoor.Dg
end

section
/- wharfref07: MD5 of a text. -/
set_option linter.unusedVariables false
set_option linter.unusedSimpArgs false
set_option maxRecDepth 100000
namespace Go.Proofs.YtpjkbamkaicoiaaDoor.Dg
open Go.RowKit U
theorem wd_four {g cp n B : Nat} {L : List UInt8} {w : World} (h : Soft w B (.slice (some ⟨g, 0, none⟩) n cp) n (bv L)) (hl : L.length = n) (o : Nat) (ho : o + 4 ≤ n) : Four g o (L.getD o 0) (L.getD (o + 1) 0) (L.getD (o + 2) 0) (L.getD (o + 3) 0) w := by
  have k : ∀ i, i < n → w.cell? ⟨g, i, none⟩ = some (.int .u8 ((L.getD i 0).toNat : Int)) := fun i hi => by
    rw [h.cellAt i _ (bv_at L i (by omega)), List.getD_eq_getElem?_getD, List.getElem?_eq_getElem (by omega)]; rfl
  exact ⟨k o (by omega), k (o + 1) (by omega), k (o + 2) (by omega), k (o + 3) (by omega)⟩
theorem md5_flat (q : Q) : flatB true [q.a, q.b, q.c, q.d] 4 = (be4 q.a).reverse ++ (be4 q.b).reverse ++ (be4 q.c).reverse ++ (be4 q.d).reverse := by simp [flatB, bytes4]
set_option maxRecDepth 100000 in
set_option maxHeartbeats 4000000 in
theorem RMd5_any (s : ByteArray) (hs : s.size ≤ 50000) (w : World) : Calls Tryd.prog 29 #[.string s] w fun e w' => e = .returned (.string ⟨(md5 s.data.toList).toArray⟩) ∧ Below w.heap.size w w' := by
  have HTB := Lib.hid table_any
  have HFL := Lib.hid (rfill_any true s hs)
  have HMD : Hid (md5 s.data.toList = (be4 (rounds5 (fill s.data.toList true) ((fill s.data.toList true).length / 64)).a).reverse ++ (be4 (rounds5 (fill s.data.toList true) ((fill s.data.toList true).length / 64)).b).reverse ++ (be4 (rounds5 (fill s.data.toList true) ((fill s.data.toList true).length / 64)).c).reverse ++ (be4 (rounds5 (fill s.data.toList true) ((fill s.data.toList true).length / 64)).d).reverse) := Lib.hid rfl
  obtain ⟨D, hD⟩ : ∃ D, D = md5 s.data.toList := ⟨_, rfl⟩
  rw [← hD] at HMD ⊢
  clear hD
  obtain ⟨h64, h65⟩ := fill64 s.data.toList true
  have hlen : (fill s.data.toList true).length ≤ 60000 := by rw [fill_length]; have := U.len_data s; omega
  obtain ⟨L, hL⟩ : ∃ L, L = fill s.data.toList true := ⟨_, rfl⟩
  rw [← hL] at HFL HMD h64 h65 hlen
  clear hL
  obtain ⟨n, hn⟩ : ∃ n, L.length = 64 * n := ⟨L.length / 64, by omega⟩
  rw [show L.length / 64 = n by omega] at HMD
  have HLN := Lib.hid hn
  have hn1 : 1 ≤ n := by omega
  have hn2 : n ≤ 1000 := by omega
  have HH0 : Hid (At w.heap.size 76 (qcells (rounds5 L 0)) (w.alloc (.cells #[.int .u32 1732584193, .int .u32 4023233417, .int .u32 2562383102, .int .u32 271733878] 76))) := Lib.hid (At.new w _ _)
  have HB0 := Lib.hid ((Below.refl w.heap.size w).alloc (Nat.le_refl _) (.cells #[.int .u32 1732584193, .int .u32 4023233417, .int .u32 2562383102, .int .u32 271733878] 76))
  clear h64 h65 hlen hn
  go_enter Tryd.func29, Tryd.ntmps29
  go_wp2_with fail
  refine (HTB.out _).mono ?_
  obtain ⟨W0, hW0⟩ : ∃ W0, W0 = (w.alloc (.cells #[.int .u32 1732584193, .int .u32 4023233417, .int .u32 2562383102, .int .u32 271733878] 76)) := ⟨_, rfl⟩
  rw [← hW0] at HH0 HB0 ⊢
  have hgk : W0.heap.size = w.heap.size + 1 := by rw [hW0]; simp
  clear hW0
  rintro e w1 ⟨rfl, hw1⟩
  have HX1 : Hid (At w.heap.size 76 (qcells (rounds5 L 0)) w1 ∧ KAt W0.heap.size w1 ∧ Below w.heap.size w w1) := Lib.hid (by
    rw [hw1]
    exact ⟨HH0.out.alloc _, kat_new W0, HB0.out.alloc (by omega) _⟩)
  obtain ⟨gk, hgk2⟩ : ∃ g, g = W0.heap.size := ⟨_, rfl⟩
  rw [← hgk2] at HX1 ⊢
  obtain ⟨gh0, hgh0⟩ : ∃ g, g = w.heap.size := ⟨_, rfl⟩
  have HX1' : Hid (At gh0 76 (qcells (rounds5 L 0)) w1 ∧ KAt gk w1 ∧ Below w.heap.size w w1) := Lib.hid (by rw [hgh0]; exact HX1.out)
  rw [← hgh0]
  clear hgk hgk2 hgh0 hw1 HX1 HH0 HB0
  go_wp2_with fail
  refine (HFL.out _).mono ?_
  rintro e w3 ⟨g, cp, rfl, h3, hb3⟩
  unfold BR at h3
  rw [HLN.out] at h3 ⊢
  obtain ⟨hcp1, _, hcp2⟩ := h3.cap_ge
  have HX3 : Hid (At gh0 76 (qcells (rounds5 L 0)) w3 ∧ Soft w3 w1.heap.size (.slice (some ⟨g, 0, none⟩) (64 * n) cp) (64 * n) (bv L) ∧ KAt gk w3 ∧ Below w.heap.size w w3) := Lib.hid
    ⟨HX1'.out.1.below hb3, h3, HX1'.out.2.1.below hb3, HX1'.out.2.2.trans (hb3.mono HX1'.out.2.2.size)⟩
  have hm : maxLen = 9223372036854775807 := by decide
  rw [hm] at hcp2
  clear h3 hb3 hm HX1'
  have hbp : ∀ x y : UInt32, IntKind.u32.wrap (u x + u y) = u (x + y) := fun x y => by rw [IntKind.wrap_u32]; exact bp x y
  have hbq : ∀ x y : UInt32, (u x + u y) % 4294967296 = u (x + y) := bp
  go_wp2
  go_loopw [3, 6] (fun hv av wq => ∃ (j o gh : Nat), j ≤ n ∧ o = 64 * j ∧ av = .int .i64 o ∧ hv = .slice (some ⟨gh, 0, none⟩) 4 4 ∧ Hid (At gh 76 (qcells (rounds5 L j)) wq ∧ Soft wq w1.heap.size (.slice (some ⟨g, 0, none⟩) (64 * n) cp) (64 * n) (bv L) ∧ KAt gk wq ∧ Below w.heap.size w wq)) (fun _ av _ => 64 * n - (intOf av).toNat)
  case atStart => exact ⟨0, 0, gh0, by omega, by omega, rfl, rfl, HX3⟩
  case round =>
    obtain ⟨j, o, gh, hj, ho, rfl, rfl, HR⟩ := hrel
    by_cases hlt : o < 64 * n
    · have hdl : decide ((o : Int) < 64 * (n : Int)) = true := by rw [decide_eq_true_eq]; omega
      obtain ⟨wo, hwo⟩ : ∃ wo, wo = wr := ⟨_, rfl⟩
      obtain ⟨q, hq⟩ : ∃ q, q = rounds5 L j := ⟨_, rfl⟩
      have HQ := Lib.hid hq
      have hc := HR.out.1
      rw [← hq] at hc
      have c0 := qc0 hc
      have c1 := qc1 hc
      have c2 := qc2 hc
      have c3 := qc3 hc
      have HO := Lib.hid ho
      clear hq hc ho
      go_wp2
      go_quiet (fail)
      have HI0 : Hid (Below wo.heap.size wo (wr.drewN nq)) := Lib.hid (by rw [hwo]; exact U.below_drewN (Below.refl _ _) nq)
      have HWO := Lib.hid hwo
      clear hwo
      go_wp2
      obtain ⟨m, hm⟩ : ∃ m : Nat → UInt32, m = fun i => wdLE L (64 * j + 4 * i) := ⟨_, rfl⟩
      have HM := Lib.hid hm
      have hoj : o = 64 * j := HO.out
      have hjn : j < n := by omega
      have HJN := Lib.hid hjn
      have HOL : Hid (o + 64 ≤ 64 * n) := Lib.hid (by omega)
      clear hm hoj hjn hj
      go_loopw [7, 8, 9, 10, 11] (fun av bv' cv dv i wq => ∃ k : Nat, k ≤ 64 ∧ i = .int .i64 k ∧ av = .int .u32 (u (run5 m q k).a) ∧ bv' = .int .u32 (u (run5 m q k).b) ∧ cv = .int .u32 (u (run5 m q k).c) ∧ dv = .int .u32 (u (run5 m q k).d) ∧ Hid (Below wo.heap.size wo wq)) (fun _ _ _ _ i _ => 64 - (intOf i).toNat)
      case atStart => exact ⟨0, by omega, rfl, rfl, rfl, rfl, rfl, HI0⟩
      case round =>
        obtain ⟨k, hk, rfl, rfl, rfl, rfl, rfl, HR2⟩ := hrel
        by_cases hk64 : k < 64
        · obtain ⟨Y, hY⟩ : ∃ Y, Y = run5 m q k := ⟨_, rfl⟩
          have HY := Lib.hid hY
          rw [← hY]
          have HST : Hid (run5 m q (k + 1) = ⟨Y.d, Y.b + rotl (Y.a + mixF k Y.b Y.c Y.d + sin k + m (mixG k)) (trn k), Y.b, Y.c⟩) := Lib.hid (by rw [run5_next, ← hY]; rfl)
          have hG : mixG k < 16 := by unfold mixG; split <;> (try split) <;> (try split) <;> omega
          obtain ⟨F, hF⟩ : ∃ F, F = mixF k Y.b Y.c Y.d := ⟨_, rfl⟩
          obtain ⟨G, hG'⟩ : ∃ G, G = mixG k := ⟨_, rfl⟩
          rw [← hF, ← hG'] at HST
          rw [← hG'] at hG
          have HFF := Lib.hid hF
          have HGG := Lib.hid hG'
          have HSW : Hid (Soft wr w1.heap.size (.slice (some ⟨g, 0, none⟩) (64 * n) cp) (64 * n) (bv L)) := Lib.hid (by have := HR.out.2.1; rw [← HWO.out] at this; exact this.below HR2.out)
          have HKW : Hid (KAt gk wr) := Lib.hid (by have := HR.out.2.2.1; rw [← HWO.out] at this; exact this.below HR2.out)
          have ck := HKW.out k hk64
          have HWD : Hid (∀ n9, Calls Tryd.prog 46 #[.slice (some ⟨g, o + 4 * G, none⟩) 4 (cp - (o + 4 * G)), .bool true] (wr.drewN n9) fun e w' => e = .returned (.int .u32 (u (m G))) ∧ ∃ p, w' = (wr.drewN n9).drewN p) := Lib.hid (fun n9 => by
            have h1 := wd_four (HSW.out.drewN n9) HLN.out (o + 4 * G) (by have := HOL.out; omega)
            have h2 := rword_any true (L := 4) (C := cp - (o + 4 * G)) h1 (by omega) (by omega)
            have e : m G = wLE (L.getD (o + 4 * G) 0) (L.getD (o + 4 * G + 1) 0) (L.getD (o + 4 * G + 2) 0) (L.getD (o + 4 * G + 3) 0) := by rw [HM.out, HO.out]; rfl
            rw [e]; exact h2)
          obtain ⟨t0, t1⟩ := trn_pos k hk64
          have HT := Lib.hid (fun w9 => rturns_any k w9 hk64)
          have HRT := Lib.hid (fun x w9 => turn_any x (trn k) t0 t1 w9)
          obtain ⟨S, hS⟩ : ∃ S, S = sin k := ⟨_, rfl⟩
          obtain ⟨T, hT⟩ : ∃ T, T = trn k := ⟨_, rfl⟩
          obtain ⟨MM, hMM⟩ : ∃ MM, MM = m G := ⟨_, rfl⟩
          rw [← hS, ← hT, ← hMM] at HST
          rw [← hS] at ck
          rw [← hT] at HT HRT
          rw [← hMM] at HWD
          have g1 : (o : Int) + 4 * (G : Int) ≤ (o : Int) + 4 * (G : Int) + 4 := by omega
          have g2 : (o : Int) + 4 * (G : Int) + 4 ≤ (cp : Int) := by have := HOL.out; omega
          obtain ⟨ya, yb, yc, yd⟩ := Y
          simp only at HST HFF ⊢
          clear hY hF hG' hS hT hMM t0 t1
          have hbx := bx
          have hba := ba
          have hbo := bo
          have hbn := bn
          rcases (show k < 16 ∨ (16 ≤ k ∧ k < 32) ∨ (32 ≤ k ∧ k < 48) ∨ 48 ≤ k by omega) with w0 | ⟨w0, w0'⟩ | ⟨w0, w0'⟩ | w0
          · have d1 : (k : Int) / 16 = 0 := by omega
            have hg : k = G := by rw [HGG.out]; unfold mixG; rw [if_pos w0]
            have hf : F = (yb &&& yc) ||| (~~~yb &&& yd) := by rw [HFF.out, ← F0]; unfold mixF; rw [if_pos w0]
            subst hf
            subst hg
            go_wp2
            go_quiet ((go_at_call 46; exact Calls.quiet_of (HWD.out _)))
            have HI1 := Lib.hid (HR2.out.trans ((U.below_drewN (Below.refl wr.heap.size wr) nq).mono HR2.out.size))
            clear ck
            go_wp2_with fail
            refine (HT.out _).mono ?_
            rintro e w5 ⟨rfl, hb5⟩
            have HI2 : Hid (Below wo.heap.size wo w5) := Lib.hid (HI1.out.trans (hb5.mono HI1.out.size))
            clear hb5
            go_wp2_with fail
            refine (HRT.out _ _).mono ?_
            rintro e w6 ⟨rfl, n6, rfl⟩
            have HI3 : Hid (Below wo.heap.size wo (w5.drewN n6)) := Lib.hid (U.below_drewN HI2.out n6)
            go_wp2
            go_roundw
            case rel => exact ⟨k + 1, by omega, by go_num, by rw [HST.out], by rw [HST.out], by rw [HST.out], by rw [HST.out], HI3⟩
            case measure => simp [intOf]; omega
          · have d1 : (k : Int) / 16 = 1 := by omega
            have hg : (5 * (k : Int) + 1) % 16 = (G : Int) := by rw [HGG.out]; unfold mixG; rw [if_neg (by omega), if_pos w0']; omega
            have hf : F = (yd &&& yb) ||| (~~~yd &&& yc) := by rw [HFF.out, ← F1]; unfold mixF; rw [if_neg (by omega), if_pos w0']
            subst hf
            go_wp2
            go_quiet ((go_at_call 46; exact Calls.quiet_of (HWD.out _)))
            have HI1 := Lib.hid (HR2.out.trans ((U.below_drewN (Below.refl wr.heap.size wr) nq).mono HR2.out.size))
            clear ck
            go_wp2_with fail
            refine (HT.out _).mono ?_
            rintro e w5 ⟨rfl, hb5⟩
            have HI2 : Hid (Below wo.heap.size wo w5) := Lib.hid (HI1.out.trans (hb5.mono HI1.out.size))
            clear hb5
            go_wp2_with fail
            refine (HRT.out _ _).mono ?_
            rintro e w6 ⟨rfl, n6, rfl⟩
            have HI3 : Hid (Below wo.heap.size wo (w5.drewN n6)) := Lib.hid (U.below_drewN HI2.out n6)
            go_wp2
            go_roundw
            case rel => exact ⟨k + 1, by omega, by go_num, by rw [HST.out], by rw [HST.out], by rw [HST.out], by rw [HST.out], HI3⟩
            case measure => simp [intOf]; omega
          · have d1 : (k : Int) / 16 = 2 := by omega
            have hg : (3 * (k : Int) + 5) % 16 = (G : Int) := by rw [HGG.out]; unfold mixG; rw [if_neg (by omega), if_neg (by omega), if_pos w0']; omega
            have hf : F = yb ^^^ yc ^^^ yd := by rw [HFF.out]; unfold mixF; rw [if_neg (by omega), if_neg (by omega), if_pos w0']
            subst hf
            go_wp2
            go_quiet ((go_at_call 46; exact Calls.quiet_of (HWD.out _)))
            have HI1 := Lib.hid (HR2.out.trans ((U.below_drewN (Below.refl wr.heap.size wr) nq).mono HR2.out.size))
            clear ck
            go_wp2_with fail
            refine (HT.out _).mono ?_
            rintro e w5 ⟨rfl, hb5⟩
            have HI2 : Hid (Below wo.heap.size wo w5) := Lib.hid (HI1.out.trans (hb5.mono HI1.out.size))
            clear hb5
            go_wp2_with fail
            refine (HRT.out _ _).mono ?_
            rintro e w6 ⟨rfl, n6, rfl⟩
            have HI3 : Hid (Below wo.heap.size wo (w5.drewN n6)) := Lib.hid (U.below_drewN HI2.out n6)
            go_wp2
            go_roundw
            case rel => exact ⟨k + 1, by omega, by go_num, by rw [HST.out], by rw [HST.out], by rw [HST.out], by rw [HST.out], HI3⟩
            case measure => simp [intOf]; omega
          · have d1 : (k : Int) / 16 = 3 := by omega
            have hg : 7 * (k : Int) % 16 = (G : Int) := by rw [HGG.out]; unfold mixG; rw [if_neg (by omega), if_neg (by omega), if_neg (by omega)]; omega
            have hf : F = yc ^^^ (yb ||| ~~~yd) := by rw [HFF.out]; unfold mixF; rw [if_neg (by omega), if_neg (by omega), if_neg (by omega)]
            subst hf
            go_wp2
            go_quiet ((go_at_call 46; exact Calls.quiet_of (HWD.out _)))
            have HI1 := Lib.hid (HR2.out.trans ((U.below_drewN (Below.refl wr.heap.size wr) nq).mono HR2.out.size))
            clear ck
            go_wp2_with fail
            refine (HT.out _).mono ?_
            rintro e w5 ⟨rfl, hb5⟩
            have HI2 : Hid (Below wo.heap.size wo w5) := Lib.hid (HI1.out.trans (hb5.mono HI1.out.size))
            clear hb5
            go_wp2_with fail
            refine (HRT.out _ _).mono ?_
            rintro e w6 ⟨rfl, n6, rfl⟩
            have HI3 : Hid (Below wo.heap.size wo (w5.drewN n6)) := Lib.hid (U.below_drewN HI2.out n6)
            go_wp2
            go_roundw
            case rel => exact ⟨k + 1, by omega, by go_num, by rw [HST.out], by rw [HST.out], by rw [HST.out], by rw [HST.out], HI3⟩
            case measure => simp [intOf]; omega
        · have hk6 : k = 64 := by omega
          have hbl : blk5 m q = ⟨q.a + (run5 m q k).a, q.b + (run5 m q k).b, q.c + (run5 m q k).c, q.d + (run5 m q k).d⟩ := by rw [hk6]; rfl
          have HBL := Lib.hid hbl
          obtain ⟨Y, hY⟩ : ∃ Y, Y = run5 m q k := ⟨_, rfl⟩
          rw [← hY] at HBL ⊢
          have hcH : At gh 76 (qcells q) wr := by
            have := HR.out.1
            rw [← HQ.out, ← HWO.out] at this
            exact this.below HR2.out
          have c0 := qc0 hcH
          have c1 := qc1 hcH
          have c2 := qc2 hcH
          have c3 := qc3 hcH
          have p0 : ∀ x : U.In (U.Ext wr.drew), x.w.cell? ⟨gh, 0, none⟩ = some (.int .u32 (u q.a)) := fun x => x.h _ _ c0
          have p1 : ∀ x : U.In (U.Ext wr.drew), x.w.cell? ⟨gh, 1, none⟩ = some (.int .u32 (u q.b)) := fun x => x.h _ _ c1
          have p2 : ∀ x : U.In (U.Ext wr.drew), x.w.cell? ⟨gh, 2, none⟩ = some (.int .u32 (u q.c)) := fun x => x.h _ _ c2
          have p3 : ∀ x : U.In (U.Ext wr.drew), x.w.cell? ⟨gh, 3, none⟩ = some (.int .u32 (u q.d)) := fun x => x.h _ _ c3
          haveI : Nonempty (U.In (U.Ext wr.drew)) := ⟨⟨_, U.Ext.refl _⟩⟩
          have HNX : Hid (At wr.heap.size 76 (qcells (rounds5 L (j + 1))) (wr.alloc (.cells (qcells (blk5 m q)) 76)).drew ∧ Soft (wr.alloc (.cells (qcells (blk5 m q)) 76)).drew w1.heap.size (.slice (some ⟨g, 0, none⟩) (64 * n) cp) (64 * n) (bv L) ∧ KAt gk (wr.alloc (.cells (qcells (blk5 m q)) 76)).drew ∧ Below w.heap.size w (wr.alloc (.cells (qcells (blk5 m q)) 76)).drew) := Lib.hid (by
            have hal : Below wr.heap.size wr (wr.alloc (.cells (qcells (blk5 m q)) 76)).drew := U.below_drewN ((Below.refl _ _).alloc (Nat.le_refl _) _) 1
            have h1 := HR.out.2
            rw [← HWO.out] at h1
            refine ⟨?_, (h1.1.below HR2.out).below hal, (h1.2.1.below HR2.out).below hal, ?_⟩
            · have e : rounds5 L (j + 1) = blk5 m q := by rw [rounds5_next, HM.out, HQ.out]
              rw [e]; exact At.drewN (At.new wr _ _) 1
            · have hA := h1.2.2.trans (HR2.out.mono h1.2.2.size)
              exact hA.trans (hal.mono hA.size))
          have hqb : qcells (blk5 m q) = #[.int .u32 (u (q.a + Y.a)), .int .u32 (u (q.b + Y.b)), .int .u32 (u (q.c + Y.c)), .int .u32 (u (q.d + Y.d))] := by rw [HBL.out]; rfl
          rw [hqb] at HNX
          have hge : 64 ≤ k := by omega
          clear hbl hk6 hk64 hcH hqb hY hk
          obtain ⟨ya, yb, yc, yd⟩ := Y
          simp only at HNX ⊢
          go_wp2
          refine wp_region_ord [0, 1, 2, 3, 4, 5, 6, 7, 8, 9, 10, 11, 12, 13, 14, 15, 16, 17, 18, 19] [] [20, 21] (by kernel_rfl) (by kernel_rfl) (by kernel_rfl) ?_
          simp only [List.cons_append, List.nil_append, List.filterMap_cons, List.filterMap_nil, List.getElem?_toArray, List.getElem?_cons_succ, List.getElem?_cons_zero]
          change wpQuiet _ _ _ _ [_, _, _, _, _, _, _, _, _, _, _, _, _, _, _, _, _, _, _, _] _
          repeat go_big_quiet_step (fail)
          refine wpQuiet_nil ?_
          clear p0 p1 p2 p3 this c0 c1 c2 c3
          unfold U.Ends
          change wpList _ _ _ [_, _] _ _
          have o5 : (o : Int) + 64 ≤ 9223372036854775807 := by have := HOL.out; omega
          go_wp2
          go_roundw
          case rel => exact ⟨j + 1, o + 64, wr.heap.size, by have := HJN.out; omega, by have := HO.out; omega, by go_num, rfl, HNX⟩
          case measure => have := HOL.out; simp [intOf]; omega
    · have hjn : j = n := by omega
      obtain ⟨R, hR⟩ : ∃ R, R = rounds5 L n := ⟨_, rfl⟩
      have hcH := HR.out.1
      rw [hjn, ← hR] at hcH
      have HCH := Lib.hid hcH
      have HD : Hid (D = flatB true [R.a, R.b, R.c, R.d] 4) := Lib.hid (by rw [HMD.out, md5_flat, hR])
      have HBY : Hid (Calls Tryd.prog 49 #[.slice (some ⟨gh, 0, none⟩) 4 4, .bool true] wr fun e w' => e = .returned (.string ⟨D.toArray⟩) ∧ Below wr.heap.size wr w') := Lib.hid (by
        rw [HD.out]
        exact rbytes_any true [R.a, R.b, R.c, R.d] (show 4 ≤ 5 by omega) (show 1 ≤ 4 by omega) (fun i x hx => by
          match i, hx with
          | 0, hx => injection hx with hx; subst hx; exact qc0 HCH.out
          | 1, hx => injection hx with hx; subst hx; exact qc1 HCH.out
          | 2, hx => injection hx with hx; subst hx; exact qc2 HCH.out
          | 3, hx => injection hx with hx; subst hx; exact qc3 HCH.out
          | i + 4, hx => simp at hx))
      clear hcH hR hjn
      go_wp2_with fail
      refine HBY.out.mono ?_
      rintro e w9 ⟨rfl, hb9⟩
      have HB9 := Lib.hid (HR.out.2.2.2.trans (hb9.mono HR.out.2.2.2.size))
      clear hb9
      go_wp2
      go_ret
      exact ⟨rfl, HB9.out⟩
end Go.Proofs.YtpjkbamkaicoiaaDoor.Dg
end
