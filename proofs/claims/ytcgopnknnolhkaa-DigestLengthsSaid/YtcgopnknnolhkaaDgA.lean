/- digest: rotations, words, steps. -/
import Derived.Test.YtcgopnknnolhkaaOrd
import Derived.Test.YtcgopnknnolhkaaDgP
import Derived.Laws.BitsLemmas
set_option linter.unusedVariables false
set_option linter.unusedSimpArgs false
namespace Go.Proofs.Ytcgopnknnolhkaa.Dg
open Go.RowKit U
theorem bx' (x y : UInt32) : bits .xor .u32 (x.toNat : Int) (y.toNat : Int) = ((x ^^^ y).toNat : Int) := by
  have hx := x.toNat_lt
  have hy := y.toNat_lt
  simp only [bits, BitVec.ofInt_natCast]
  rw [show IntKind.bits .u32 = 32 from rfl, BitVec.toNat_xor, BitVec.toNat_ofNat, BitVec.toNat_ofNat, Nat.mod_eq_of_lt hx, Nat.mod_eq_of_lt hy, UInt32.toNat_xor, IntKind.wrap_u32]
  have := Nat.xor_lt_two_pow hx hy
  omega
theorem ba' (x y : UInt32) : bits .and .u32 (x.toNat : Int) (y.toNat : Int) = ((x &&& y).toNat : Int) := by
  have hx := x.toNat_lt
  have hy := y.toNat_lt
  simp only [bits, BitVec.ofInt_natCast]
  rw [show IntKind.bits .u32 = 32 from rfl, BitVec.toNat_and, BitVec.toNat_ofNat, BitVec.toNat_ofNat, Nat.mod_eq_of_lt hx, Nat.mod_eq_of_lt hy, UInt32.toNat_and, IntKind.wrap_u32]
  have := Nat.and_lt_two_pow x.toNat hy
  omega
theorem bo' (x y : UInt32) : bits .or .u32 (x.toNat : Int) (y.toNat : Int) = ((x ||| y).toNat : Int) := by
  have hx := x.toNat_lt
  have hy := y.toNat_lt
  simp only [bits, BitVec.ofInt_natCast]
  rw [show IntKind.bits .u32 = 32 from rfl, BitVec.toNat_or, BitVec.toNat_ofNat, BitVec.toNat_ofNat, Nat.mod_eq_of_lt hx, Nat.mod_eq_of_lt hy, UInt32.toNat_or, IntKind.wrap_u32]
  have := Nat.or_lt_two_pow hx hy
  omega
theorem bn' (x : UInt32) : bits .xor .u32 4294967295 (x.toNat : Int) = ((~~~x).toNat : Int) := by
  have h := bx' 4294967295 x
  rw [show ((4294967295 : UInt32).toNat : Int) = 4294967295 from rfl] at h
  rw [h]
  have e : 4294967295 ^^^ x = ~~~x := ?_
  · rw [e]
  apply UInt32.eq_of_toBitVec_eq
  apply BitVec.eq_of_getLsbD_eq
  apply bits32
  refine ⟨?_, ?_, ?_, ?_, ?_, ?_, ?_, ?_, ?_, ?_, ?_, ?_, ?_, ?_, ?_, ?_, ?_, ?_, ?_, ?_, ?_, ?_, ?_, ?_, ?_, ?_, ?_, ?_, ?_, ?_, ?_, ?_⟩ <;> simp
theorem bp' (x y : UInt32) : IntKind.u32.wrap ((x.toNat : Int) + (y.toNat : Int)) = ((x + y).toNat : Int) := by
  rw [IntKind.wrap_u32, UInt32.toNat_add]; omega
/-- A word's number, closed. -/
def u (x : UInt32) : Int := (x.toNat : Int)
theorem bx (x y : UInt32) : bits .xor .u32 (u x) (u y) = u (x ^^^ y) := bx' x y
theorem ba (x y : UInt32) : bits .and .u32 (u x) (u y) = u (x &&& y) := ba' x y
theorem bo (x y : UInt32) : bits .or .u32 (u x) (u y) = u (x ||| y) := bo' x y
theorem bn (x : UInt32) : bits .xor .u32 IntKind.u32.max (u x) = u (~~~x) := bn' x
theorem bp (x y : UInt32) : (u x + u y) % 4294967296 = u (x + y) := by have := bp' x y; rwa [IntKind.wrap_u32] at this
theorem u_range (x : UInt32) : 0 ≤ u x ∧ u x < 4294967296 := by have := x.toNat_lt; unfold u; omega
theorem shlE (x : UInt32) (k : Nat) (h : k < 32) : u x * 2 ^ k % 4294967296 = u (x <<< UInt32.ofNat k) := by
  unfold u
  rw [UInt32.toNat_shiftLeft, UInt32.toNat_ofNat', Nat.mod_eq_of_lt (show k < 2 ^ 32 by omega), Nat.mod_eq_of_lt h, Nat.shiftLeft_eq, Int.natCast_emod, Int.natCast_mul, Int.natCast_pow]
  rfl
theorem shrE (x : UInt32) (k : Nat) (h : k < 32) : u x / 2 ^ k = u (x >>> UInt32.ofNat k) := by
  unfold u
  rw [UInt32.toNat_shiftRight, UInt32.toNat_ofNat', Nat.mod_eq_of_lt (show k < 2 ^ 32 by omega), Nat.mod_eq_of_lt h, Nat.shiftRight_eq_div_pow, Int.natCast_ediv, Int.natCast_pow]
  rfl
theorem and31 (k : Nat) (h : k < 32) : bits .and .u64 (k : Int) 31 = (k : Int) := by
  have := bits_mask .u64 32 (by decide) (fun n h0 h1 => by rw [show IntKind.u64.wrap n = n % 18446744073709551616 by simp [IntKind.wrap, IntKind.bits, IntKind.signed]]; omega) 5 (by decide) (k : Int) (by omega) (by omega)
  have e : ((2 : Int) ^ 5 - 1) = 31 := by decide
  rw [e] at this
  rw [this]; omega
theorem ret_int {k : IntKind} {a b : Int} (h : a = b) : Ending.returned (.int k a) = .returned (.int k b) := by rw [h]
theorem rotE (x : UInt32) (k : Nat) (h0 : 0 < k) (h : k < 32) : bits .or .u32 (u x * 2 ^ k % 4294967296) (u x / 2 ^ (32 - k)) = u (rotl x k) := by
  rw [shlE x k h, shrE x (32 - k) (by omega), bo]; rfl
theorem rot_any (x : UInt32) (k : Nat) (h0 : 0 < k) (h : k < 32) (w : World) : Calls Try.prog 30 #[.int .u32 (u x), .int .i64 (k : Int)] w fun e w' => e = .returned (.int .u32 (u (rotl x k))) ∧ w = w' := by
  have h31 := and31 k h
  have HR := Lib.hid (rotE x k h0 h)
  go_enter Try.func30, Try.ntmps30
  go_wp2
  go_ret
  exact ⟨ret_int HR.out, rfl⟩
theorem turn_any (x : UInt32) (k : Nat) (h0 : 0 < k) (h : k < 32) (w : World) : Calls Try.prog 22 #[.int .u32 (u x), .int .i64 (k : Int)] w fun e w' => e = .returned (.int .u32 (u (rotl x k))) ∧ ∃ n, w' = w.drewN n := by
  have HR := Lib.hid (rotE x k h0 h)
  have b1 : ¬ ((32 : Int) - (k : Int) < 0) := by omega
  go_enter Try.func22, Try.ntmps22
  go_wp2
  go_quiet (fail)
  go_wp2
  go_ret
  exact ⟨ret_int HR.out, _, rfl⟩
theorem mM (x : UInt32) : bits .and .u32 (u x) 16711935 = u (x &&& 16711935) := ba x 16711935
theorem s8 (x : UInt32) : u x / (256 : Int) = u (x >>> 8) := shrE x 8 (by decide)
theorem l8 (x : UInt32) : u x * (256 : Int) % (4294967296 : Int) = u (x <<< 8) := shlE x 8 (by decide)
theorem s16 (x : UInt32) : u x / (65536 : Int) = u (x >>> 16) := shrE x 16 (by decide)
theorem l16 (x : UInt32) : u x * (65536 : Int) % (4294967296 : Int) = u (x <<< 16) := shlE x 16 (by decide)
theorem rev_any (x : UInt32) (w : World) : Calls Try.prog 32 #[.int .u32 (u x)] w fun e w' => e = .returned (.int .u32 (u (rev x))) ∧ w = w' := by
  obtain ⟨x0, x1⟩ := u_range x
  have HR : Hid (bits .or .u32 (bits .or .u32 (bits .and .u32 (u x / 256) 16711935) (bits .and .u32 (u x) 16711935 * 256 % 4294967296) / 65536) (bits .or .u32 (bits .and .u32 (u x / 256) 16711935) (bits .and .u32 (u x) 16711935 * 256 % 4294967296) * 65536 % 4294967296) = u (rev x)) := Lib.hid (by
    rw [s8, mM, mM, l8, bo, s16, l16, bo]; rfl)
  go_enter Try.func32, Try.ntmps32
  go_wp2
  go_ret
  exact ⟨ret_int HR.out, rfl⟩
theorem step_any (b c d : UInt32) (i : Nat) (w : World) (h : i < 80) : Calls Try.prog 33 #[.int .u32 (u b), .int .u32 (u c), .int .u32 (u d), .int .i64 (i : Int)] w fun e w' => e = .returned (.tuple #[.int .u32 (u (stF i b c d)), .int .u32 (u (stK i))]) ∧ w = w' := by
  have hbx := bx
  have hba := ba
  have hbo := bo
  unfold stF stK
  by_cases h1 : i < 20
  · simp only [h1, if_true]
    go_enter Try.func33, Try.ntmps33
    go_wp2
    go_ret2
    exact ⟨rfl, rfl⟩
  · by_cases h2 : i < 40
    · simp only [h1, h2, if_true, if_false]
      go_enter Try.func33, Try.ntmps33
      go_wp2
      go_ret2
      exact ⟨rfl, rfl⟩
    · by_cases h3 : i < 60
      · simp only [h1, h2, h3, if_true, if_false]
        go_enter Try.func33, Try.ntmps33
        go_wp2
        go_ret2
        exact ⟨rfl, rfl⟩
      · simp only [h1, h2, h3, if_false]
        go_enter Try.func33, Try.ntmps33
        go_wp2
        go_ret2
        exact ⟨rfl, rfl⟩
theorem mask15 (n : Nat) (h : n < 1000000) : bits .and .i64 (n : Int) 15 = ((n % 16 : Nat) : Int) := by
  have := bits_mask .i64 32 (by decide) (fun n h0 h1 => by rw [IntKind.wrap_i64]; omega) 4 (by decide) (n : Int) (by omega) (by omega)
  have e : ((2 : Int) ^ 4 - 1) = 15 := by decide
  rw [e] at this
  rw [this]; omega
theorem mix_any (b c d : UInt32) (i : Nat) (w : World) (h : i < 64) : Calls Try.prog 29 #[.int .u32 (u b), .int .u32 (u c), .int .u32 (u d), .int .i64 (i : Int)] w fun e w' => e = .returned (.tuple #[.int .u32 (u (mixF i b c d)), .int .i64 (mixG i : Int)]) ∧ w = w' := by
  have hbx := bx
  have hba := ba
  have hbo := bo
  have hbn := bn
  unfold mixF mixG
  by_cases h1 : i < 16
  · simp only [h1, if_true]
    go_enter Try.func29, Try.ntmps29
    go_wp2
    go_ret2
    exact ⟨rfl, rfl⟩
  · by_cases h2 : i < 32
    · simp only [h1, h2, if_true, if_false]
      have hm : bits .and .i64 (5 * (i : Int) + 1) 15 = (((5 * i + 1) % 16 : Nat) : Int) := by have := mask15 (5 * i + 1) (by omega); rwa [show ((5 * i + 1 : Nat) : Int) = 5 * (i : Int) + 1 by omega] at this
      obtain ⟨G, hG⟩ : ∃ G, G = (5 * i + 1) % 16 := ⟨_, rfl⟩
      rw [← hG] at hm ⊢
      clear hG
      go_enter Try.func29, Try.ntmps29
      go_wp2
      go_ret2
      exact ⟨rfl, rfl⟩
    · by_cases h3 : i < 48
      · simp only [h1, h2, h3, if_true, if_false]
        have hm : bits .and .i64 (3 * (i : Int) + 5) 15 = (((3 * i + 5) % 16 : Nat) : Int) := by have := mask15 (3 * i + 5) (by omega); rwa [show ((3 * i + 5 : Nat) : Int) = 3 * (i : Int) + 5 by omega] at this
        obtain ⟨G, hG⟩ : ∃ G, G = (3 * i + 5) % 16 := ⟨_, rfl⟩
        rw [← hG] at hm ⊢
        clear hG
        go_enter Try.func29, Try.ntmps29
        go_wp2
        go_ret2
        exact ⟨rfl, rfl⟩
      · simp only [h1, h2, h3, if_false]
        have hm : bits .and .i64 (7 * (i : Int)) 15 = ((7 * i % 16 : Nat) : Int) := by have := mask15 (7 * i) (by omega); rwa [show ((7 * i : Nat) : Int) = 7 * (i : Int) by omega] at this
        obtain ⟨G, hG⟩ : ∃ G, G = 7 * i % 16 := ⟨_, rfl⟩
        rw [← hG] at hm ⊢
        clear hG
        go_enter Try.func29, Try.ntmps29
        go_wp2
        go_ret2
        exact ⟨rfl, rfl⟩
end Go.Proofs.Ytcgopnknnolhkaa.Dg
