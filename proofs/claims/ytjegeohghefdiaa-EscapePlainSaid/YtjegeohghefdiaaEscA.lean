/- The escapes' small functions at this translation: a digit, a byte's escape, the table, a byte of it, what begins a text; for every argument. -/
import Derived.Test.YtjegeohghefdiaaBld
import Derived.Test.YtjegeohghefdiaaShelf
import Derived.Test.YtjegeohghefdiaaEscP
import Derived.Deep.QuietTactic
import Derived.BigQuiet
import Derived.Below
import Derived.LoopTactic
import Derived.Outline
import Derived.Lib.Hide
import Derived.Lib.ConvBytes
import Derived.Laws.BytesArg
import Derived.Shelf.Strings.Prefix
set_option linter.unusedVariables false
set_option linter.unusedSimpArgs false
namespace Go.Proofs.Ytjegeohghefdiaa.Esc
open Go.RowKit EscP


/-- An array's element at an index that is a variable: its cells are of one word. -/
theorem run_index_arr {P : Program} {w : World} (t e : TypeId) (n : Nat) (cs : Array Value) (i : Nat) (v : Value) (h : P.underlying t = some (.array n e))
    (ha : ∀ w, (isAgg e).run P w = .ok false w) (hz : ∀ w, (Go.sizeOf e).run P w = .ok 1 w) (hi : i < n) (hv : cs[i]? = some v) :
    (Instr.index t (.agg cs) (.int .i64 (i : Int))).run P w = .ok v w := by
  have h1 : (0 : Int) ≤ (i : Int) ∧ (i : Int) < (n : Int) := by omega
  simp [Instr.index, run_underlying h, asIntOf, go_sem, hz, part, ha, hv, hi]

/-- A byte's escape, over bytes. -/
theorem hexd_int (n : UInt8) (h : n < 16) : ((hexd n).toNat : Int) = if (n.toNat : Int) < 10 then 48 + (n.toNat : Int) else 87 + (n.toNat : Int) := by
  have h' : n.toNat < 16 := by simpa [UInt8.lt_iff_toNat_lt] using h
  unfold hexd
  by_cases hn : n < 10
  · have hn' : n.toNat < 10 := by simpa [UInt8.lt_iff_toNat_lt] using hn
    rw [if_pos hn, if_pos (by omega), UInt8.toNat_add]; simp; omega
  · have hn' : ¬ n.toNat < 10 := by simpa [UInt8.lt_iff_toNat_lt] using hn
    rw [if_neg hn, if_neg (by omega), UInt8.toNat_add]; simp; omega

theorem digit_any (n : Int) (m : UInt8) (hn : n = (m.toNat : Int)) (hm : m < 16) (w : World) :
    Calls Try.prog 29 #[.int .u8 n] w fun e w' => e = .returned (.int .u8 ((hexd m).toNat : Int)) ∧ w = w' := by
  have H := Lib.hid (hexd_int m hm)
  have h0 : 0 ≤ n := by omega
  have h1 : n < 16 := by have : m.toNat < 16 := by simpa [UInt8.lt_iff_toNat_lt] using hm
                         omega
  have HN := Lib.hid hn; clear hn
  by_cases h : n < 10
  · go_enter Try.func29, Try.ntmps29
    go_wp2
    go_ret
    exact ⟨by rw [H.out, ← HN.out, if_pos h]; rfl, rfl⟩
  · go_enter Try.func29, Try.ntmps29
    go_wp2
    go_ret
    exact ⟨by rw [H.out, ← HN.out, if_neg (by omega)]; simp; omega, rfl⟩

/-- The table, as the machine holds it. -/
def tab : Array Value := #[.int .u8 32, .int .u8 34, .int .u8 38, .int .u8 39, .int .u8 47, .int .u8 58, .int .u8 60, .int .u8 62, .int .u8 64, .int .u8 92]
theorem tab_at (k : Nat) (h : k < 10) : tab[k]? = some (.int .u8 ((spB.getD k 0).toNat : Int)) := by
  match k, h with
  | 0, _ => rfl
  | 1, _ => rfl
  | 2, _ => rfl
  | 3, _ => rfl
  | 4, _ => rfl
  | 5, _ => rfl
  | 6, _ => rfl
  | 7, _ => rfl
  | 8, _ => rfl
  | 9, _ => rfl

theorem special_any (w : World) :
    Calls Try.prog 27 #[] w fun e w' => e = .returned (.agg tab) ∧ Below w.heap.size w w' := by
  go_enter Try.func27, Try.ntmps27
  go_wp2
  refine bodyPost_ret (v := .agg tab) (by simp [results, Try.results27, go_sem, tab]) rfl ⟨rfl, ?_⟩
  exact (Below.refl _ _).alloc (Nat.le_refl _) _


theorem isSp_step (c x : UInt8) (k : Nat) (hk : k < 9) (hx : x = spB.getD k 0) :
    ((spB.drop k).take (9 - k)).contains c = ((x == c) || ((spB.drop (k + 1)).take (9 - (k + 1))).contains c) := by
  have h1 : spB.drop k = x :: spB.drop (k + 1) := by
    subst hx
    match k, hk with
    | 0, _ => rfl
    | 1, _ => rfl
    | 2, _ => rfl
    | 3, _ => rfl
    | 4, _ => rfl
    | 5, _ => rfl
    | 6, _ => rfl
    | 7, _ => rfl
    | 8, _ => rfl
  rw [h1, show 9 - k = (9 - (k + 1)) + 1 by omega, List.take_succ_cons, List.contains_cons, Bool.beq_comm]

theorem beq_u8 (x c : UInt8) : ((x.toNat : Int) == (c.toNat : Int)) = (x == c) := by
  rw [Bool.eq_iff_iff]; simp only [beq_iff_eq]
  rw [← UInt8.toNat_inj]; omega

set_option maxHeartbeats 400000 in
theorem isSpecial_any (c : UInt8) (w : World) :
    Calls Try.prog 17 #[.int .u8 (c.toNat : Int)] w fun e w' => e = .returned (.bool (isSp c)) ∧ Below w.heap.size w w' := by
  go_enter Try.func17, Try.ntmps17
  go_wp2_with (go_at_call 27; refine (special_any _).mono ?_)
  rintro e w1 ⟨rfl, hb⟩
  go_wp2
  go_loop [6] (fun i => ∃ k : Nat, k ≤ 10 ∧ i = .int .i64 k ∧ Hid (isSp c = ((spB.drop k).take (9 - k)).contains c)) (fun i => 10 - (intOf i).toNat)
  case atStart => exact ⟨0, by omega, rfl, Lib.hid rfl⟩
  case round =>
    obtain ⟨k, hk, rfl, H⟩ := hrel
    by_cases hlt : k < 10
    · obtain ⟨x, hx⟩ : ∃ x, x = spB.getD k 0 := ⟨_, rfl⟩
      have hidx := fun w => run_index_arr (P := Try.prog) (w := w) 49 5 10 tab k _ Try.underlying49 Try.isAgg5 Try.sizeOf5 hlt (tab_at k hlt)
      rw [← hx] at hidx
      have HX := Lib.hid hx; clear hx
      by_cases h9 : k < 9
      · by_cases hq : (x == c) = true
        · have hq2 : ((x.toNat : Int) == (c.toNat : Int)) = true := by rw [beq_u8]; exact hq
          have HQ := Lib.hid hq; clear hq
          go_wp2
          go_ret
          refine ⟨?_, hb⟩
          rw [H.out, isSp_step c x k h9 HX.out, HQ.out]; rfl
        · have hq' : (x == c) = false := by simpa using hq
          have hq2 : ((x.toNat : Int) == (c.toNat : Int)) = false := by rw [beq_u8]; exact hq'
          have HQ := Lib.hid hq'; clear hq hq'
          go_wp2
          go_round
          case rel => exact ⟨k + 1, by omega, by go_num, Lib.hid (by rw [H.out, isSp_step c x k h9 HX.out, HQ.out]; rfl)⟩
          case measure => simp [intOf]; omega
      · have hd : decide ((k : Int) < 9) = false := by simp; omega
        have h9' : k = 9 := by omega
        have H9 := Lib.hid h9'; clear h9'
        by_cases hq : (x == c) = true
        all_goals
          first
          | (have hq2 : ((x.toNat : Int) == (c.toNat : Int)) = true := by rw [beq_u8]; exact hq)
          | (have hq2 : ((x.toNat : Int) == (c.toNat : Int)) = false := by rw [beq_u8]; simpa using hq)
          clear hq
          go_wp2
          go_round
          case rel => exact ⟨k + 1, by omega, by go_num, Lib.hid (by rw [H.out, H9.out]; rfl)⟩
          case measure => simp [intOf]; omega
    · have h10 : k = 10 := by omega
      have H10 := Lib.hid h10; clear h10
      go_wp2
      go_ret
      exact ⟨by rw [H.out, H10.out]; rfl, hb⟩

theorem shr4 (c : UInt8) : ((c.toNat : Int) / 16) = (((c >>> 4).toNat : Nat) : Int) ∧ c >>> 4 < 16 := by
  constructor
  · rw [UInt8.toNat_shiftRight]; simp [Nat.shiftRight_eq_div_pow]
  · rw [UInt8.lt_iff_toNat_lt, UInt8.toNat_shiftRight]
    have := c.toNat_lt
    simp [Nat.shiftRight_eq_div_pow]; omega
theorem and15 (c : UInt8) : Go.bits .and .u8 (c.toNat : Int) 15 = (((c &&& 15).toNat : Nat) : Int) ∧ c &&& 15 < 16 := by
  constructor
  · have h1 : (BitVec.ofInt 8 (c.toNat : Int)).toNat = c.toNat := by
      rw [BitVec.ofInt_natCast, BitVec.toNat_ofNat]; exact Nat.mod_eq_of_lt c.toNat_lt
    have h2 : (BitVec.ofInt 8 15).toNat = 15 := by decide
    show IntKind.u8.wrap ((BitVec.ofInt 8 (c.toNat : Int) &&& BitVec.ofInt 8 15).toNat : Int) = _
    have h3 := Nat.and_lt_two_pow c.toNat (show 15 < 2 ^ 4 by decide)
    rw [BitVec.toNat_and, h1, h2, UInt8.toNat_and]
    simp [IntKind.wrap, IntKind.signed, IntKind.bits]
    omega
  · rw [UInt8.lt_iff_toNat_lt, UInt8.toNat_and]
    have := Nat.and_lt_two_pow c.toNat (show 15 < 2 ^ 4 by decide)
    simpa using this

set_option maxHeartbeats 400000 in
theorem sequence_any (c : UInt8) (w : World) :
    Calls Try.prog 19 #[.int .u8 (c.toNat : Int)] w fun e w' => e = .returned (.string ⟨(seq3 c).toArray⟩) ∧ Below w.heap.size w w' := by
  have hcv := run_convert_bytes_arg (P := Try.prog) (w.alloc (.cells #[.int .u8 92, .int .u8 ((hexd (c >>> 4)).toNat : Int), .int .u8 ((hexd (c &&& 15)).toNat : Int)] 5)) 33 5 Try.underlying33 Try.underlying5 w.heap.size 0 3 3 [92, ((hexd (c >>> 4)).toNat : Int), ((hexd (c &&& 15)).toNat : Int)] rfl (by
    intro i hi
    match i, hi with
    | 0, _ => simp
    | 1, _ => simp
    | 2, _ => simp) 9 Try.underlying9
  go_enter Try.func19, Try.ntmps19
  go_wp2_with fail
  refine (digit_any _ (c >>> 4) (shr4 c).1 (shr4 c).2 _).mono ?_
  rintro e w1 ⟨rfl, rfl⟩
  go_wp2_with fail
  refine (digit_any _ (c &&& 15) (and15 c).1 (and15 c).2 _).mono ?_
  rintro e w1 ⟨rfl, rfl⟩
  go_wp2
  go_ret
  refine ⟨?_, (Below.refl _ _).alloc (Nat.le_refl _) _⟩
  simp [strOfNums, seq3]

theorem begF_step (l : List UInt8) (x : UInt8) (k : Nat) (hk : k < 10) (hx : x = spB.getD k 0) :
    begF l k = if (seq3 x).isPrefixOf l then some x else begF l (k + 1) := by
  have h1 : spB.drop k = x :: spB.drop (k + 1) := by
    subst hx
    match k, hk with
    | 0, _ => rfl
    | 1, _ => rfl
    | 2, _ => rfl
    | 3, _ => rfl
    | 4, _ => rfl
    | 5, _ => rfl
    | 6, _ => rfl
    | 7, _ => rfl
    | 8, _ => rfl
    | 9, _ => rfl
  unfold begF
  rw [h1, List.find?_cons]
  cases (seq3 x).isPrefixOf l <;> rfl

/-- What begins has found, as a value. -/
def begV (o : Option UInt8) : Value := .tuple #[.int .u8 ((o.getD 0).toNat : Int), .bool o.isSome]


theorem hasPrefix (s p : ByteArray) (l : List UInt8) (hp : p.data.toList = l) (w : World) :
    Calls Try.prog 25 #[.string s, .string p] w fun e w' => e = .returned (.bool (l.isPrefixOf s.data.toList)) ∧ w = w' := by
  subst hp
  exact (Try.strings_HasPrefix s p w).mono fun e w' ⟨h1, h2⟩ => ⟨h1, h2.symm⟩

set_option maxHeartbeats 400000 in
theorem begins_any (s : ByteArray) (w : World) :
    Calls Try.prog 16 #[.string s] w fun e w' => e = .returned (begV (beg s.data.toList)) ∧ Below w.heap.size w w' := by
  go_enter Try.func16, Try.ntmps16
  go_wp2_with (go_at_call 27; refine (special_any _).mono ?_)
  rintro e w1 ⟨rfl, hb⟩
  go_wp2
  go_loopw [7] (fun i wr => ∃ k : Nat, k ≤ 10 ∧ i = .int .i64 k ∧ Hid (beg s.data.toList = begF s.data.toList k) ∧ Below w.heap.size w wr) (fun i _ => 10 - (intOf i).toNat)
  case atStart => exact ⟨0, by omega, rfl, Lib.hid rfl, hb⟩
  case round =>
    obtain ⟨k, hk, rfl, H, hbw⟩ := hrel
    by_cases hlt : k < 10
    · obtain ⟨x, hx⟩ : ∃ x, x = spB.getD k 0 := ⟨_, rfl⟩
      have hidx := fun w => run_index_arr (P := Try.prog) (w := w) 49 5 10 tab k _ Try.underlying49 Try.isAgg5 Try.sizeOf5 hlt (tab_at k hlt)
      rw [← hx] at hidx
      have HX := Lib.hid hx; clear hx
      have hsz := hbw.size
      go_wp2_with fail
      refine (sequence_any x _).mono ?_
      rintro e w2 ⟨rfl, hb2⟩
      have hb3 : Below w.heap.size w w2 := hbw.trans (hb2.mono hsz)
      clear hb2
      go_wp2_with fail
      refine (hasPrefix s _ (seq3 x) (by simp) _).mono ?_
      rintro e w3 ⟨rfl, rfl⟩
      cases hq : (seq3 x).isPrefixOf s.data.toList with
      | true =>
        have HQ := Lib.hid hq; clear hq
        go_wp2
        go_ret2
        refine ⟨?_, hb3⟩
        rw [H.out, begF_step _ x k hlt HX.out, HQ.out]; rfl
      | false =>
        have HQ := Lib.hid hq; clear hq
        go_wp2
        go_roundw
        case rel => exact ⟨k + 1, by omega, by go_num, Lib.hid (by rw [H.out, begF_step _ x k hlt HX.out, HQ.out]; rfl), hb3⟩
        case measure => simp [intOf]; omega
    · have h10 : k = 10 := by omega
      have H10 := Lib.hid h10; clear h10
      go_wp2
      go_ret2
      exact ⟨by rw [H.out, H10.out]; rfl, hbw⟩

end Go.Proofs.Ytjegeohghefdiaa.Esc
