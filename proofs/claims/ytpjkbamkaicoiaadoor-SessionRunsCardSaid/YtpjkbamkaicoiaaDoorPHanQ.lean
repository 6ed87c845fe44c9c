/- Contracts of functions of this translation, and what they come to; what is not used is left out. -/
import Derived.Test.YtpjkbamkaicoiaaDoorPRaQ
import Derived.Test.YtpjkbamkaicoiaaDoorPRefJ
import Derived.Test.YtpjkbamkaicoiaaDoorPRefF
import Derived.Test.YtpjkbamkaicoiaaDoorPGlyA
import Derived.Test.YtpjkbamkaicoiaaDoorPGlyP
import Derived.Test.YtpjkbamkaicoiaaDoorPUtil
import Derived.Test.YtpjkbamkaicoiaaDoorPJidP
import Derived.Test.YtpjkbamkaicoiaaDoorPStrs
import Derived.Test.YtpjkbamkaicoiaaDoorPShelf
import Derived.Test.YtpjkbamkaicoiaaDoorPRaP
import Derived.Test.YtpjkbamkaicoiaaDoorPRa2
import Derived.Test.YtpjkbamkaicoiaaDoorPRa1
import Derived.Test.YtpjkbamkaicoiaaDoorPRa0
import Derived.Test.YtpjkbamkaicoiaaDoorPg0
import Derived.Test.YtpjkbamkaicoiaaDoorPHanP
import Derived.Test.YtpjkbamkaicoiaaDoorPEscB
import Derived.Test.YtpjkbamkaicoiaaDoorPEscA
import Derived.Test.YtpjkbamkaicoiaaDoorPEscP
import Derived.Test.YtpjkbamkaicoiaaDoorPBld
import Derived.Test.YtpjkbamkaicoiaaDoorPHanA
import Derived.Test.YtpjkbamkaicoiaaDoorPRep
import Derived.Test.YtpjkbamkaicoiaaDoorPRc3
import Derived.Test.YtpjkbamkaicoiaaDoorPRc2
import Derived.Test.YtpjkbamkaicoiaaDoorPRc1
import Derived.Test.YtpjkbamkaicoiaaDoorPRc0
import Derived.Test.YtpjkbamkaicoiaaDoorPHanF

section
/- handle's functions and the reference's, as printed: what they come to. Plain. -/
set_option linter.unusedVariables false
set_option linter.unusedSimpArgs false
namespace Go.Proofs.YtpjkbamkaicoiaaDoor.HanQ
open Go.RowKit Gly Rep Han EscP HanP F Rc RaP Go.Proofs.YtpjkbamkaicoiaaDoorW.PrintWords Go.Proofs.YtpjkbamkaicoiaaDoorW.PrintLast Go.Proofs.YtpjkbamkaicoiaaDoorW.PrintMore

theorem byteIff {f : Int → Option Bool} {g : UInt8 → Bool} (h : ∀ n : Fin 256, f (n.val : Int) = some (g (UInt8.ofNat n.val))) (c : UInt8) : f (c.toNat : Int) = some (g c) := by
  have := h ⟨c.toNat, c.toNat_lt⟩
  simpa using this
theorem isDigit_eq (c : UInt8) : handle_isDigit.f (c.toNat : Int) = some (digitB c) := byteIff (by decide +kernel) c
theorem isLetter_eq (c : UInt8) : handle_isLetter.f (c.toNat : Int) = some (letterB c) := byteIff (by decide +kernel) c
theorem rdigit_eq (c : UInt8) : wharfref04_digit.f (c.toNat : Int) = some (digitB c) := byteIff (by decide +kernel) c
theorem rletter_eq (c : UInt8) : wharfref04_letter.f (c.toNat : Int) = some (letterB c) := byteIff (by decide +kernel) c
theorem u8n (b : UInt8) (n : Nat) (c : UInt8) (hc : c.toNat = n) (z : Int) (hz : z = n) : ((b.toNat : Int) = z) ↔ b = c := by
  rw [← UInt8.toNat_inj]; omega
theorem i32 (b : UInt8) : ((b.toNat : Int) = 32) = (b = 32) := by rw [eq_iff_iff]; exact u8n b 32 32 rfl _ rfl
theorem i46 (b : UInt8) : ((b.toNat : Int) = 46) = (b = 46) := by rw [eq_iff_iff]; exact u8n b 46 46 rfl _ rfl
theorem i48 (b : UInt8) : ((b.toNat : Int) = 48) = (b = 48) := by rw [eq_iff_iff]; exact u8n b 48 48 rfl _ rfl
theorem i64 (b : UInt8) : ((b.toNat : Int) = 64) = (b = 64) := by rw [eq_iff_iff]; exact u8n b 64 64 rfl _ rfl
theorem head_at (s : ByteArray) (h : 0 < s.size) : s.data.toList.head? = some (s[0]'h) := by
  have := U.u8_at s 0 h
  rw [List.drop_zero] at this
  rw [this]; rfl
theorem wsucc (i : Nat) (h : i < 9000000000000000000) : wrap64 ((i : Int) + 1) = ((i + 1 : Nat) : Int) := by rw [w64 _ (by omega) (by omega)]; rfl

/-! ### numbers -/
def rng (s : ByteArray) : Bool := decide (5 ≤ s.size) && decide (s.size ≤ 9)
theorem numB_eq (s : ByteArray) : numB s.data.toList = (rng s && (s.data.toList.head? != some 48 && s.data.toList.all digitB)) := by
  unfold numB rng; rw [U.len_data, Bool.and_assoc]
theorem isNumber_loop (s : ByteArray) (hs : s.size ≤ hl) : ∀ (d i : Nat), i + d = s.size →
    Ev (fun k => handle_isNumber.l0 k s (s.size : Int) (i : Int)) (rng s && (d == 0 || (s.data.toList.head? != some 48 && (s.data.toList.drop i).all digitB))) := by
  have hhl : hl = 68719476736 := rfl
  intro d
  induction d with
  | zero =>
    intro i hi
    refine Ev.step (fun k => ?_) (Ev.now _)
    simp only [handle_isNumber.l0]
    rw [if_neg (by omega)]
    unfold rng
    by_cases h5 : 5 ≤ s.size
    · rw [if_pos (by omega), decide_eq_true h5]
      congr 1
      by_cases h9 : s.size ≤ 9
      · rw [decide_eq_true h9, decide_eq_true (show (s.size : Int) ≤ 9 by omega)]; rfl
      · rw [decide_eq_false h9, decide_eq_false (show ¬ (s.size : Int) ≤ 9 by omega)]; rfl
    · rw [if_neg (by omega), decide_eq_false h5]; rfl
  | succ d ih =>
    intro i hi
    have hlt : i < s.size := by omega
    have h0 : 0 < s.size := by omega
    rw [U.u8_at s i hlt, List.all_cons, head_at s h0]
    have hstep : ∀ k, handle_isNumber.l0 (k + 1) s (s.size : Int) (i : Int) = if digitB s[i] = true then (if s[0] = 48 then some false else handle_isNumber.l0 k s (s.size : Int) ((i + 1 : Nat) : Int)) else some false := by
      intro k
      have g := eq_true (show 0 < (s.size : Int) by omega)
      simp only [handle_isNumber.l0]
      rw [if_pos (by omega), if_pos (by omega), if_pos (by omega), bt_get s i hlt _ rfl, isDigit_eq, wsucc i (by omega)]
      simp only [Option.bind_some, g, if_true, bt_get s 0 h0 0 rfl, i48]
    cases hd : digitB s[i] with
    | false =>
      refine Ev.step (fun k => by rw [hstep, hd, if_neg (by decide)]) ?_
      simp
      exact Ev.now _
    | true =>
      by_cases h48 : s[0] = 48
      · refine Ev.step (f := fun _ => some false) (fun k => by rw [hstep, hd, if_pos rfl, if_pos h48]) ?_
        rw [h48]; simp
        exact Ev.now _
      · refine Ev.step (fun k => by rw [hstep, hd, if_pos rfl, if_neg h48]) ?_
        refine cast (congrArg _ ?_) (ih (i + 1) (by omega))
        rw [head_at s h0]
        have e : (some s[0] != some 48) = true := by rw [bne_iff_ne]; intro h; exact h48 (Option.some.inj h)
        rw [e]
        cases d with
        | zero => simp [List.drop_of_length_le (show s.data.toList.length ≤ i + 1 by rw [U.len_data]; omega)]
        | succ d => simp
theorem isNumber_ev (s : ByteArray) (hs : s.size ≤ hl) : Ev (fun k => handle_isNumber.f k s) (numB s.data.toList) := by
  refine cast (congrArg _ ?_) (isNumber_loop s hs s.size 0 (by omega))
  rw [numB_eq]
  rcases Nat.eq_zero_or_pos s.size with h | h
  · have : rng s = false := by unfold rng; rw [decide_eq_false (by omega)]; rfl
    rw [this]; rfl
  · have : (s.size == 0) = false := by rw [beq_eq_false_iff_ne]; omega
    rw [this]; simp

theorem rnumber_loop (s : ByteArray) (hs : s.size ≤ hl) : ∀ (d i : Nat), i + d = s.size → Ev (fun k => wharfref04_number.l0 k s (i : Int)) ((s.data.toList.drop i).all digitB) := by
  have hhl : hl = 68719476736 := rfl
  intro d
  induction d with
  | zero =>
    intro i hi
    refine Ev.step (fun k => ?_) (Ev.now _)
    simp only [wharfref04_number.l0]
    rw [if_neg (by omega), List.drop_of_length_le (by rw [U.len_data]; omega)]; rfl
  | succ d ih =>
    intro i hi
    have hlt : i < s.size := by omega
    rw [U.u8_at s i hlt, List.all_cons]
    have hstep : ∀ k, wharfref04_number.l0 (k + 1) s (i : Int) = if digitB s[i] = true then wharfref04_number.l0 k s ((i + 1 : Nat) : Int) else some false := by
      intro k
      simp only [wharfref04_number.l0]
      rw [if_pos (by omega), if_pos (by omega), bt_get s i hlt _ rfl, rdigit_eq]
      simp only [Option.bind_some]
      rw [wsucc i (by omega)]
    cases hd : digitB s[i] with
    | false => exact Ev.step (f := fun _ => some false) (fun k => by rw [hstep, hd, if_neg (by decide)]) (Ev.now _)
    | true =>
      refine Ev.step (fun k => by rw [hstep, hd, if_pos rfl]) ?_
      exact ih (i + 1) (by omega)
theorem rnumber_ev (s : ByteArray) (hs : s.size ≤ hl) : Ev (fun k => wharfref04_number.f k s) (numB s.data.toList) := by
  have hj : ∀ b, Ev (fun k => wharfref04_number.j0 k s b) (!b && s.data.toList.all digitB) := by
    intro b
    cases b with
    | true => exact Ev.step (f := fun _ => some false) (fun k => by simp only [wharfref04_number.j0, if_true]) (Ev.now _)
    | false =>
      refine Ev.step (fun k => by simp only [wharfref04_number.j0]; rw [if_neg (by decide)]) ?_
      exact rnumber_loop s hs s.size 0 (by omega)
  rw [numB_eq]
  unfold rng wharfref04_number.f
  by_cases h5 : 5 ≤ s.size
  · have h0 : 0 < s.size := by omega
    simp only [if_neg (show ¬ (s.size : Int) < 5 by omega)]
    rw [decide_eq_true h5]
    by_cases h9 : s.size ≤ 9
    · simp only [if_neg (show ¬ (s.size : Int) > 9 by omega), if_pos (show 0 < (s.size : Int) by omega)]
      rw [decide_eq_true h9, bt_get s 0 h0 0 rfl, head_at s h0]
      refine cast (congrArg _ ?_) (hj _)
      simp only [Bool.true_and]
      congr 1
      rw [Bool.eq_iff_iff, Bool.not_eq_true', beq_eq_false_iff_ne, bne_iff_ne]
      have e48 := i48 s[0]
      constructor
      · intro h e; exact h (e48.mpr (Option.some.inj e))
      · intro h e; exact h (by rw [e48.mp e])
    · simp only [if_pos (show (s.size : Int) > 9 by omega)]
      rw [decide_eq_false h9]
      exact hj true
  · simp only [if_pos (show (s.size : Int) < 5 by omega)]
    rw [decide_eq_false h5]
    exact hj true

/-! ### screen names -/
def lastok (l : List UInt8) : Bool := l.getLast? != some 32 && l.getLast? != some 64
theorem lastok_cons (c : UInt8) (l : List UInt8) (h : l ≠ [] ∨ (c ≠ 32 ∧ c ≠ 64)) : lastok (c :: l) = lastok l := by
  unfold lastok
  cases l with
  | nil =>
    rcases h with h | ⟨h1, h2⟩
    · exact absurd rfl h
    · have a1 : (some c != some 32) = true := by rw [bne_iff_ne]; intro h; exact h1 (Option.some.inj h)
      have a2 : (some c != some 64) = true := by rw [bne_iff_ne]; intro h; exact h2 (Option.some.inj h)
      rw [List.getLast?_singleton, a1, a2]; rfl
  | cons d l => rw [List.getLast?_cons_cons]
theorem okc_or (c : UInt8) (h64 : c ≠ 64) (h32 : c ≠ 32) (h46 : c ≠ 46) : okc c = (letterB c || digitB c) := by
  unfold okc
  rw [beq_eq_false_iff_ne.mpr h64, beq_eq_false_iff_ne.mpr h32, beq_eq_false_iff_ne.mpr h46]; rfl
theorem sn_loop (s : ByteArray) (hs : s.size ≤ hl) : ∀ (d i : Nat) (n : Nat), i + d = s.size → n ≤ i →
    Ev (fun k => handle_isScreenName.l0 k s (n : Int) (s.size : Int) (i : Int)) ((s.data.toList.drop i).all okc && (lastok (s.data.toList.drop i) && decide (n + (s.data.toList.drop i).count 64 ≤ 1))) := by
  have hhl : hl = 68719476736 := rfl
  intro d
  induction d with
  | zero =>
    intro i n hi hn
    refine Ev.step (fun k => ?_) (Ev.now _)
    simp only [handle_isScreenName.l0]
    rw [if_neg (by omega), List.drop_of_length_le (by rw [U.len_data]; omega)]
    congr 1
    by_cases h : n ≤ 1
    · rw [decide_eq_true (show (n : Int) ≤ 1 by omega)]; simp [lastok, h]
    · rw [decide_eq_false (show ¬ (n : Int) ≤ 1 by omega)]; simp [lastok, h]
  | succ d ih =>
    intro i n hi hn
    have hlt : i < s.size := by omega
    have hrest : d = 0 ↔ s.data.toList.drop (i + 1) = [] := by
      rw [List.drop_eq_nil_iff, U.len_data]; omega
    rw [U.u8_at s i hlt]
    obtain ⟨c, hc⟩ : ∃ c, c = s[i] := ⟨_, rfl⟩
    rw [← hc]
    have hstep : ∀ k, handle_isScreenName.l0 (k + 1) s (n : Int) (s.size : Int) (i : Int) =
        if c = 64 then (if d = 0 then some false else handle_isScreenName.l0 k s ((n + 1 : Nat) : Int) (s.size : Int) ((i + 1 : Nat) : Int))
        else if c = 32 then (if d = 0 then some false else handle_isScreenName.l0 k s (n : Int) (s.size : Int) ((i + 1 : Nat) : Int))
        else if c = 46 then handle_isScreenName.l0 k s (n : Int) (s.size : Int) ((i + 1 : Nat) : Int)
        else if letterB c = true then handle_isScreenName.l0 k s (n : Int) (s.size : Int) ((i + 1 : Nat) : Int)
        else if digitB c = true then handle_isScreenName.l0 k s (n : Int) (s.size : Int) ((i + 1 : Nat) : Int) else some false := by
      intro k
      simp only [handle_isScreenName.l0]
      rw [if_pos (by omega), if_pos (by omega), if_pos (by omega), bt_get s i hlt _ rfl, ← hc, w64 ((s.size : Int) - 1) (by omega) (by omega), wsucc i (by omega), wsucc n (by omega)]
      have e1 : ((i : Int) = (s.size : Int) - 1) = (d = 0) := by rw [eq_iff_iff]; omega
      simp only [e1, i64, i32, i46, isLetter_eq, isDigit_eq, Option.bind_some]
    by_cases h64 : c = 64
    · by_cases hd : d = 0
      · refine Ev.step (f := fun _ => some false) (fun k => by rw [hstep, if_pos h64, if_pos hd]) ?_
        rw [hrest.mp hd, h64]; simp [lastok]
        exact Ev.now _
      · refine Ev.step (fun k => by rw [hstep, if_pos h64, if_neg hd]) ?_
        refine cast (congrArg _ ?_) (ih (i + 1) (n + 1) (by omega) (by omega))
        rw [lastok_cons c _ (.inl fun e => hd (hrest.mpr e)), List.all_cons, List.count_cons, h64]
        have : okc 64 = true := by decide
        rw [this]
        simp only [Bool.true_and, beq_self_eq_true, if_true]
        congr 3
        rw [eq_iff_iff]; omega
    · by_cases h32 : c = 32
      · by_cases hd : d = 0
        · refine Ev.step (f := fun _ => some false) (fun k => by rw [hstep, if_neg h64, if_pos h32, if_pos hd]) ?_
          rw [hrest.mp hd, h32]; simp [lastok]
          exact Ev.now _
        · refine Ev.step (fun k => by rw [hstep, if_neg h64, if_pos h32, if_neg hd]) ?_
          refine cast (congrArg _ ?_) (ih (i + 1) n (by omega) (by omega))
          rw [lastok_cons c _ (.inl fun e => hd (hrest.mpr e)), List.all_cons, List.count_cons, h32]
          have : okc 32 = true := by decide
          rw [this]; rfl
      · have hcnt : (c :: s.data.toList.drop (i + 1)).count 64 = (s.data.toList.drop (i + 1)).count 64 := by
          rw [List.count_cons, if_neg (by rw [beq_iff_eq]; exact h64)]; rfl
        have hlo := lastok_cons c (s.data.toList.drop (i + 1)) (.inr ⟨h32, h64⟩)
        rw [hcnt, hlo, List.all_cons]
        by_cases h46 : c = 46
        · refine Ev.step (fun k => by rw [hstep, if_neg h64, if_neg h32, if_pos h46]) ?_
          have : okc c = true := by rw [h46]; decide
          rw [this]
          exact ih (i + 1) n (by omega) (by omega)
        · rw [okc_or c h64 h32 h46]
          cases hL : letterB c with
          | true =>
            refine Ev.step (fun k => by rw [hstep, if_neg h64, if_neg h32, if_neg h46, hL, if_pos rfl]) ?_
            exact ih (i + 1) n (by omega) (by omega)
          | false =>
            cases hD : digitB c with
            | true =>
              refine Ev.step (fun k => by rw [hstep, if_neg h64, if_neg h32, if_neg h46, hL, hD, if_neg (by decide), if_pos rfl]) ?_
              exact ih (i + 1) n (by omega) (by omega)
            | false => exact Ev.step (f := fun _ => some false) (fun k => by rw [hstep, if_neg h64, if_neg h32, if_neg h46, hL, hD, if_neg (by decide), if_neg (by decide)]) (Ev.now _)
theorem norm_pos (s : ByteArray) (h : ¬ ((normB s).size : Int) < 3) : 3 ≤ s.size := by have := normB_size s; omega
theorem normB_len (s : ByteArray) : (norm s.data.toList).length = (normB s).size := by rw [← U.len_data]; rfl
theorem snB_eq (s : ByteArray) : snB s.data.toList = (decide (3 ≤ (normB s).size) && (decide (s.size ≤ 16) && ((match s.data.toList.head? with | some c => letterB c | none => false) && (s.data.toList.all okc && (lastok s.data.toList && decide (s.data.toList.count 64 ≤ 1)))))) := by
  unfold snB lastok
  rw [normB_len, U.len_data]
  generalize s.data.toList.all okc = x1
  generalize (s.data.toList.getLast? != some 32) = x2
  generalize (s.data.toList.getLast? != some 64) = x3
  generalize decide (s.data.toList.count 64 ≤ 1) = x4
  cases x1 <;> cases x2 <;> cases x3 <;> cases x4 <;> rfl
theorem sn_ev (s : ByteArray) (hs : s.size ≤ hl) : Ev (fun k => handle_isScreenName.f k s) (snB s.data.toList) := by
  have hj : ∀ b, Ev (fun k => handle_isScreenName.j0 k s b) (!b && (s.data.toList.all okc && (lastok s.data.toList && decide (s.data.toList.count 64 ≤ 1)))) := by
    intro b
    cases b with
    | true => exact Ev.step (f := fun _ => some false) (fun k => by simp only [handle_isScreenName.j0, if_true]) (Ev.now _)
    | false =>
      refine Ev.step (fun k => by simp only [handle_isScreenName.j0]; rw [if_neg (by decide)]) ?_
      have := sn_loop s hs s.size 0 0 (by omega) (by omega)
      rw [List.drop_zero, Nat.zero_add] at this
      exact this
  rw [snB_eq]
  unfold handle_isScreenName.f handle_Norm.f
  simp only [if_pos hs, Option.bind_some]
  by_cases h3 : ((normB s).size : Int) < 3
  · simp only [if_pos h3]
    rw [decide_eq_false (show ¬ 3 ≤ (normB s).size by omega)]
    exact hj true
  · have hp := norm_pos s h3
    simp only [if_neg h3]
    rw [decide_eq_true (show 3 ≤ (normB s).size by omega)]
    by_cases h16 : (s.size : Int) > 16
    · simp only [if_pos h16]
      rw [decide_eq_false (show ¬ s.size ≤ 16 by omega)]
      exact hj true
    · simp only [if_neg h16, if_pos (show 0 < (s.size : Int) by omega)]
      rw [decide_eq_true (show s.size ≤ 16 by omega), bt_get s 0 (by omega) 0 rfl, isLetter_eq, head_at s (by omega)]
      simp only [Option.bind_some]
      have := hj (!(letterB s[0]))
      rw [Bool.not_not] at this
      exact this
theorem check_ev (s : ByteArray) (hs : s.size ≤ hl) : Ev (fun k => handle_Check.f k s) (if isName s.data.toList then 0 else 40) := by
  unfold handle_Check.f
  refine Ev.bind (isNumber_ev s hs) ?_
  unfold isName
  cases numB s.data.toList with
  | true => exact Ev.now _
  | false =>
    simp only [Bool.false_eq_true, if_false, Bool.false_or]
    refine Ev.bind (sn_ev s hs) ?_
    cases snB s.data.toList with
    | true => exact Ev.now _
    | false => exact Ev.now _
end Go.Proofs.YtpjkbamkaicoiaaDoor.HanQ
end
