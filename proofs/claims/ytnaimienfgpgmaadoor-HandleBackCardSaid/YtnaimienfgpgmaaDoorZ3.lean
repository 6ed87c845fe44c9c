/- Contracts of functions of this translation, and what they come to: the texts that the laws of this seat lean on, one behind the other. -/
import Derived.Test.YtnaimienfgpgmaaDoorZ0
import Derived.Test.YtnaimienfgpgmaaDoorZ1
import Derived.Test.YtnaimienfgpgmaaDoorZ2

/- Names, as plain functions on lists of bytes. No program in sight. -/
set_option linter.unusedVariables false
set_option linter.unusedSimpArgs false
namespace Go.Proofs.YtnaimienfgpgmaaDoor.HanP
open Gly Rep Han EscP

def digitB (c : UInt8) : Bool := decide (48 ≤ c) && decide (c ≤ 57)
def letterB (c : UInt8) : Bool := (decide (97 ≤ c) && decide (c ≤ 122)) || (decide (65 ≤ c) && decide (c ≤ 90))
/-- Is a text a number? -/
def numB (l : List UInt8) : Bool := decide (5 ≤ l.length) && (decide (l.length ≤ 9) && (l.head? != some 48 && l.all digitB))
/-- What may be in a screen name. -/
def okc (c : UInt8) : Bool := c == 64 || (c == 32 || (c == 46 || (letterB c || digitB c)))
/-- Is a text a screen name? -/
def snB (l : List UInt8) : Bool := decide (3 ≤ (norm l).length) && (decide (l.length ≤ 16) && ((match l.head? with | some c => letterB c | none => false) && (l.getLast? != some 32 && (l.getLast? != some 64 && (l.all okc && decide (l.count 64 ≤ 1))))))
def isName (l : List UInt8) : Bool := numB l || snB l

theorem low_facts : ∀ n : Fin 256, (low (UInt8.ofNat n.val) = 32 ↔ UInt8.ofNat n.val = 32) ∧ (low (UInt8.ofNat n.val) = 64 ↔ UInt8.ofNat n.val = 64) ∧ low (low (UInt8.ofNat n.val)) = low (UInt8.ofNat n.val) ∧ okc (low (UInt8.ofNat n.val)) = okc (UInt8.ofNat n.val) ∧
    letterB (low (UInt8.ofNat n.val)) = letterB (UInt8.ofNat n.val) ∧ (digitB (UInt8.ofNat n.val) = true → low (UInt8.ofNat n.val) = UInt8.ofNat n.val ∧ UInt8.ofNat n.val ≠ 32) ∧ (letterB (UInt8.ofNat n.val) = true → UInt8.ofNat n.val ≠ 32) ∧
    ¬ (65 ≤ low (UInt8.ofNat n.val) ∧ low (UInt8.ofNat n.val) ≤ 90) := by decide +kernel
theorem low_at (c : UInt8) : (low c = 32 ↔ c = 32) ∧ (low c = 64 ↔ c = 64) ∧ low (low c) = low c ∧ okc (low c) = okc c ∧ letterB (low c) = letterB c ∧ (digitB c = true → low c = c ∧ c ≠ 32) ∧ (letterB c = true → c ≠ 32) ∧ ¬ (65 ≤ low c ∧ low c ≤ 90) := by
  have := low_facts ⟨c.toNat, c.toNat_lt⟩
  simpa using this

theorem norm_cons (c : UInt8) (l : List UInt8) : norm (c :: l) = if c = 32 then norm l else low c :: norm l := by
  unfold norm without
  rw [List.map_cons, List.filter_cons]
  by_cases h : c = 32
  · rw [if_pos h, if_neg (by rw [bne_iff_ne]; intro hn; exact hn ((low_at c).1.mpr h))]
  · rw [if_neg h, if_pos (by rw [bne_iff_ne]; intro hn; exact h ((low_at c).1.mp hn))]
theorem norm_nil : norm [] = [] := rfl
theorem norm_append (l m : List UInt8) : norm (l ++ m) = norm l ++ norm m := by
  unfold norm without; rw [List.map_append, List.filter_append]
theorem norm_swap (l : List UInt8) : (without 32 l).map low = norm l := by
  induction l with
  | nil => rfl
  | cons c l ih =>
    rw [norm_cons]
    unfold without at ih ⊢
    rw [List.filter_cons]
    by_cases h : c = 32
    · rw [if_pos h, if_neg (by rw [bne_iff_ne]; exact fun hn => hn h), ih]
    · rw [if_neg h, if_pos (by rw [bne_iff_ne]; exact h), List.map_cons, ih]
theorem norm_norm (l : List UInt8) : norm (norm l) = norm l := by
  induction l with
  | nil => rfl
  | cons c l ih =>
    rw [norm_cons]
    by_cases h : c = 32
    · rw [if_pos h, ih]
    · rw [if_neg h, norm_cons, if_neg (fun hn => h ((low_at c).1.mp hn)), (low_at c).2.2.1, ih]
theorem norm_mem (l : List UInt8) (x : UInt8) (h : x ∈ norm l) : x ≠ 32 ∧ ¬ (65 ≤ x ∧ x ≤ 90) := by
  unfold norm without at h
  rw [List.mem_filter, List.mem_map] at h
  obtain ⟨⟨y, _, rfl⟩, h2⟩ := h
  exact ⟨by simpa using h2, (low_at y).2.2.2.2.2.2.2⟩
theorem norm_digits (l : List UInt8) (h : l.all digitB = true) : norm l = l := by
  induction l with
  | nil => rfl
  | cons c l ih =>
    rw [List.all_cons, Bool.and_eq_true] at h
    have hd := (low_at c).2.2.2.2.2.1 h.1
    rw [norm_cons, if_neg hd.2, hd.1, ih h.2]
theorem norm_okc (l : List UInt8) (h : l.all okc = true) : (norm l).all okc = true := by
  induction l with
  | nil => rfl
  | cons c l ih =>
    rw [List.all_cons, Bool.and_eq_true] at h
    rw [norm_cons]
    by_cases hc : c = 32
    · rw [if_pos hc]; exact ih h.2
    · rw [if_neg hc, List.all_cons, (low_at c).2.2.2.1, h.1, ih h.2]; rfl
theorem norm_count (l : List UInt8) : (norm l).count 64 = l.count 64 := by
  induction l with
  | nil => rfl
  | cons c l ih =>
    rw [norm_cons]
    by_cases hc : c = 32
    · subst hc; rw [if_pos rfl, ih, List.count_cons]; rfl
    · rw [if_neg hc, List.count_cons, List.count_cons, ih]
      congr 1
      by_cases h : c = 64
      · subst h; rfl
      · have h2 : ¬ low c = 64 := fun hn => h ((low_at c).2.1.mp hn)
        simp [h, h2]
theorem norm_last (l : List UInt8) (h32 : l.getLast? ≠ some 32) (h64 : l.getLast? ≠ some 64) (x : UInt8) (hx : (norm l).getLast? = some x) : x ≠ 32 ∧ x ≠ 64 := by
  rcases List.eq_nil_or_concat l with rfl | ⟨m, c, rfl⟩
  · cases hx
  · rw [List.concat_eq_append] at h32 h64 hx
    rw [List.getLast?_concat] at h32 h64
    have n32 : c ≠ 32 := fun e => h32 (by rw [e])
    have n64 : c ≠ 64 := fun e => h64 (by rw [e])
    rw [norm_append, norm_cons, if_neg n32, norm_nil, List.getLast?_concat] at hx
    obtain rfl := Option.some.inj hx
    exact ⟨fun e => n32 ((low_at c).1.mp e), fun e => n64 ((low_at c).2.1.mp e)⟩
/-- The plain form of a name is one. -/
theorem isName_norm (l : List UInt8) (h : isName l = true) : isName (norm l) = true := by
  unfold isName at h ⊢
  rw [Bool.or_eq_true] at h ⊢
  rcases h with h | h
  · left
    have hd : l.all digitB = true := by unfold numB at h; simp only [Bool.and_eq_true] at h; exact h.2.2.2
    rw [norm_digits l hd]; exact h
  · right
    unfold snB at h ⊢
    simp only [Bool.and_eq_true, decide_eq_true_eq, bne_iff_ne] at h ⊢
    obtain ⟨h1, h2, h3, h4, h5, h6, h7⟩ := h
    have hl := norm_len l
    refine ⟨by rw [norm_norm]; exact h1, by omega, ?_, ?_, ?_, norm_okc l h6, by rw [norm_count]; exact h7⟩
    · cases l with
      | nil => simp at h3
      | cons c l =>
        simp only [List.head?_cons] at h3
        have hc := (low_at c).2.2.2.2.2.2.1 h3
        rw [norm_cons, if_neg hc]
        simp only [List.head?_cons]
        rw [(low_at c).2.2.2.2.1]; exact h3
    · intro e; exact (norm_last l h4 h5 32 e).1 rfl
    · intro e; exact (norm_last l h4 h5 64 e).2 rfl
theorem bad_norm (l : List UInt8) : bad (norm l) = (norm l).isEmpty := by
  unfold bad
  have h1 : ((norm l).head? == some 32) = false := by
    rw [beq_eq_false_iff_ne]; intro h
    exact (norm_mem l 32 (List.mem_of_mem_head? h)).1 rfl
  have h2 : ((norm l).getLast? == some 32) = false := by
    rw [beq_eq_false_iff_ne]; intro h
    exact (norm_mem l 32 (List.mem_of_getLast? h)).1 rfl
  rw [h1, h2]; simp
theorem isName_bad (l : List UInt8) (h : isName l = true) : bad (norm l) = false := by
  rw [bad_norm]
  cases hn : norm l with
  | cons c m => rfl
  | nil =>
    exfalso
    unfold isName at h
    rw [Bool.or_eq_true] at h
    rcases h with h | h
    · unfold numB at h
      simp only [Bool.and_eq_true, decide_eq_true_eq] at h
      rw [norm_digits l h.2.2.2] at hn
      rw [hn] at h; simp at h
    · unfold snB at h
      simp only [Bool.and_eq_true, decide_eq_true_eq] at h
      rw [hn] at h; simp at h
end Go.Proofs.YtnaimienfgpgmaaDoor.HanP

/- handle's functions and the reference's, as printed: what they come to. Plain. -/
set_option linter.unusedVariables false
set_option linter.unusedSimpArgs false
namespace Go.Proofs.YtnaimienfgpgmaaDoor.HanQ
open Go.RowKit Gly Rep Han EscP HanP F Rc RaP Go.Proofs.YtnaimienfgpgmaaDoorW.PrintWords Go.Proofs.YtnaimienfgpgmaaDoorW.PrintLast Go.Proofs.YtnaimienfgpgmaaDoorW.PrintMore

theorem byteIff {f : Int → Option Bool} {g : UInt8 → Bool} (h : ∀ n : Fin 256, f (n.val : Int) = some (g (UInt8.ofNat n.val))) (c : UInt8) : f (c.toNat : Int) = some (g c) := by
  have := h ⟨c.toNat, c.toNat_lt⟩
  simpa using this
theorem isDigit_eq (c : UInt8) : handle_isDigit.f (c.toNat : Int) = some (digitB c) := byteIff (by decide +kernel) c
theorem isLetter_eq (c : UInt8) : handle_isLetter.f (c.toNat : Int) = some (letterB c) := byteIff (by decide +kernel) c
theorem rdigit_eq (c : UInt8) : wharfref04_digit.f (c.toNat : Int) = some (digitB c) := byteIff (by decide +kernel) c
theorem rletter_eq (c : UInt8) : wharfref04_letter.f (c.toNat : Int) = some (letterB c) := byteIff (by decide +kernel) c
theorem u8n (b : UInt8) (n : Nat) (c : UInt8) (hc : c.toNat = n) (z : Int) (hz : z = n) : ((b.toNat : Int) = z) ↔ b = c := by
  rw [← UInt8.toNat_inj]; omega
theorem i32 (b : UInt8) : ((b.toNat : Int) = 32) = (b = 32) := by rw [eq_iff_iff]; exact u8n b 32 32 rfl _ rfl
theorem i46 (b : UInt8) : ((b.toNat : Int) = 46) = (b = 46) := by rw [eq_iff_iff]; exact u8n b 46 46 rfl _ rfl
theorem i48 (b : UInt8) : ((b.toNat : Int) = 48) = (b = 48) := by rw [eq_iff_iff]; exact u8n b 48 48 rfl _ rfl
theorem i64 (b : UInt8) : ((b.toNat : Int) = 64) = (b = 64) := by rw [eq_iff_iff]; exact u8n b 64 64 rfl _ rfl
theorem head_at (s : ByteArray) (h : 0 < s.size) : s.data.toList.head? = some (s[0]'h) := by
  have := U.u8_at s 0 h
  rw [List.drop_zero] at this
  rw [this]; rfl
theorem wsucc (i : Nat) (h : i < 9000000000000000000) : wrap64 ((i : Int) + 1) = ((i + 1 : Nat) : Int) := by rw [w64 _ (by omega) (by omega)]; rfl

/-! ### numbers -/
def rng (s : ByteArray) : Bool := decide (5 ≤ s.size) && decide (s.size ≤ 9)
theorem numB_eq (s : ByteArray) : numB s.data.toList = (rng s && (s.data.toList.head? != some 48 && s.data.toList.all digitB)) := by
  unfold numB rng; rw [U.len_data, Bool.and_assoc]
theorem isNumber_loop (s : ByteArray) (hs : s.size ≤ hl) : ∀ (d i : Nat), i + d = s.size →
    Ev (fun k => handle_isNumber.l0 k s (s.size : Int) (i : Int)) (rng s && (d == 0 || (s.data.toList.head? != some 48 && (s.data.toList.drop i).all digitB))) := by
  have hhl : hl = 68719476736 := rfl
  intro d
  induction d with
  | zero =>
    intro i hi
    refine Ev.step (fun k => ?_) (Ev.now _)
    simp only [handle_isNumber.l0]
    rw [if_neg (by omega)]
    unfold rng
    by_cases h5 : 5 ≤ s.size
    · rw [if_pos (by omega), decide_eq_true h5]
      congr 1
      by_cases h9 : s.size ≤ 9
      · rw [decide_eq_true h9, decide_eq_true (show (s.size : Int) ≤ 9 by omega)]; rfl
      · rw [decide_eq_false h9, decide_eq_false (show ¬ (s.size : Int) ≤ 9 by omega)]; rfl
    · rw [if_neg (by omega), decide_eq_false h5]; rfl
  | succ d ih =>
    intro i hi
    have hlt : i < s.size := by omega
    have h0 : 0 < s.size := by omega
    rw [U.u8_at s i hlt, List.all_cons, head_at s h0]
    have hstep : ∀ k, handle_isNumber.l0 (k + 1) s (s.size : Int) (i : Int) = if digitB s[i] = true then (if s[0] = 48 then some false else handle_isNumber.l0 k s (s.size : Int) ((i + 1 : Nat) : Int)) else some false := by
      intro k
      have g := eq_true (show 0 < (s.size : Int) by omega)
      simp only [handle_isNumber.l0]
      rw [if_pos (by omega), if_pos (by omega), if_pos (by omega), bt_get s i hlt _ rfl, isDigit_eq, wsucc i (by omega)]
      simp only [Option.bind_some, g, if_true, bt_get s 0 h0 0 rfl, i48]
    cases hd : digitB s[i] with
    | false =>
      refine Ev.step (fun k => by rw [hstep, hd, if_neg (by decide)]) ?_
      simp
      exact Ev.now _
    | true =>
      by_cases h48 : s[0] = 48
      · refine Ev.step (f := fun _ => some false) (fun k => by rw [hstep, hd, if_pos rfl, if_pos h48]) ?_
        rw [h48]; simp
        exact Ev.now _
      · refine Ev.step (fun k => by rw [hstep, hd, if_pos rfl, if_neg h48]) ?_
        refine cast (congrArg _ ?_) (ih (i + 1) (by omega))
        rw [head_at s h0]
        have e : (some s[0] != some 48) = true := by rw [bne_iff_ne]; intro h; exact h48 (Option.some.inj h)
        rw [e]
        cases d with
        | zero => simp [List.drop_of_length_le (show s.data.toList.length ≤ i + 1 by rw [U.len_data]; omega)]
        | succ d => simp
theorem isNumber_ev (s : ByteArray) (hs : s.size ≤ hl) : Ev (fun k => handle_isNumber.f k s) (numB s.data.toList) := by
  refine cast (congrArg _ ?_) (isNumber_loop s hs s.size 0 (by omega))
  rw [numB_eq]
  rcases Nat.eq_zero_or_pos s.size with h | h
  · have : rng s = false := by unfold rng; rw [decide_eq_false (by omega)]; rfl
    rw [this]; rfl
  · have : (s.size == 0) = false := by rw [beq_eq_false_iff_ne]; omega
    rw [this]; simp

theorem rnumber_loop (s : ByteArray) (hs : s.size ≤ hl) : ∀ (d i : Nat), i + d = s.size → Ev (fun k => wharfref04_number.l0 k s (i : Int)) ((s.data.toList.drop i).all digitB) := by
  have hhl : hl = 68719476736 := rfl
  intro d
  induction d with
  | zero =>
    intro i hi
    refine Ev.step (fun k => ?_) (Ev.now _)
    simp only [wharfref04_number.l0]
    rw [if_neg (by omega), List.drop_of_length_le (by rw [U.len_data]; omega)]; rfl
  | succ d ih =>
    intro i hi
    have hlt : i < s.size := by omega
    rw [U.u8_at s i hlt, List.all_cons]
    have hstep : ∀ k, wharfref04_number.l0 (k + 1) s (i : Int) = if digitB s[i] = true then wharfref04_number.l0 k s ((i + 1 : Nat) : Int) else some false := by
      intro k
      simp only [wharfref04_number.l0]
      rw [if_pos (by omega), if_pos (by omega), bt_get s i hlt _ rfl, rdigit_eq]
      simp only [Option.bind_some]
      rw [wsucc i (by omega)]
    cases hd : digitB s[i] with
    | false => exact Ev.step (f := fun _ => some false) (fun k => by rw [hstep, hd, if_neg (by decide)]) (Ev.now _)
    | true =>
      refine Ev.step (fun k => by rw [hstep, hd, if_pos rfl]) ?_
      exact ih (i + 1) (by omega)
theorem rnumber_ev (s : ByteArray) (hs : s.size ≤ hl) : Ev (fun k => wharfref04_number.f k s) (numB s.data.toList) := by
  have hj : ∀ b, Ev (fun k => wharfref04_number.j0 k s b) (!b && s.data.toList.all digitB) := by
    intro b
    cases b with
    | true => exact Ev.step (f := fun _ => some false) (fun k => by simp only [wharfref04_number.j0, if_true]) (Ev.now _)
    | false =>
      refine Ev.step (fun k => by simp only [wharfref04_number.j0]; rw [if_neg (by decide)]) ?_
      exact rnumber_loop s hs s.size 0 (by omega)
  rw [numB_eq]
  unfold rng wharfref04_number.f
  by_cases h5 : 5 ≤ s.size
  · have h0 : 0 < s.size := by omega
    simp only [if_neg (show ¬ (s.size : Int) < 5 by omega)]
    rw [decide_eq_true h5]
    by_cases h9 : s.size ≤ 9
    · simp only [if_neg (show ¬ (s.size : Int) > 9 by omega), if_pos (show 0 < (s.size : Int) by omega)]
      rw [decide_eq_true h9, bt_get s 0 h0 0 rfl, head_at s h0]
      refine cast (congrArg _ ?_) (hj _)
      simp only [Bool.true_and]
      congr 1
      rw [Bool.eq_iff_iff, Bool.not_eq_true', beq_eq_false_iff_ne, bne_iff_ne]
      have e48 := i48 s[0]
      constructor
      · intro h e; exact h (e48.mpr (Option.some.inj e))
      · intro h e; exact h (by rw [e48.mp e])
    · simp only [if_pos (show (s.size : Int) > 9 by omega)]
      rw [decide_eq_false h9]
      exact hj true
  · simp only [if_pos (show (s.size : Int) < 5 by omega)]
    rw [decide_eq_false h5]
    exact hj true

/-! ### screen names -/
def lastok (l : List UInt8) : Bool := l.getLast? != some 32 && l.getLast? != some 64
theorem lastok_cons (c : UInt8) (l : List UInt8) (h : l ≠ [] ∨ (c ≠ 32 ∧ c ≠ 64)) : lastok (c :: l) = lastok l := by
  unfold lastok
  cases l with
  | nil =>
    rcases h with h | ⟨h1, h2⟩
    · exact absurd rfl h
    · have a1 : (some c != some 32) = true := by rw [bne_iff_ne]; intro h; exact h1 (Option.some.inj h)
      have a2 : (some c != some 64) = true := by rw [bne_iff_ne]; intro h; exact h2 (Option.some.inj h)
      rw [List.getLast?_singleton, a1, a2]; rfl
  | cons d l => rw [List.getLast?_cons_cons]
theorem okc_no (c : UInt8) (h : okc c = true) (h64 : c ≠ 64) (h32 : c ≠ 32) (h46 : c ≠ 46) : (letterB c || digitB c) = true := by
  unfold okc at h
  rw [beq_eq_false_iff_ne.mpr h64, beq_eq_false_iff_ne.mpr h32, beq_eq_false_iff_ne.mpr h46] at h
  simpa using h
theorem okc_or (c : UInt8) (h64 : c ≠ 64) (h32 : c ≠ 32) (h46 : c ≠ 46) : okc c = (letterB c || digitB c) := by
  unfold okc
  rw [beq_eq_false_iff_ne.mpr h64, beq_eq_false_iff_ne.mpr h32, beq_eq_false_iff_ne.mpr h46]; rfl
theorem sn_loop (s : ByteArray) (hs : s.size ≤ hl) : ∀ (d i : Nat) (n : Nat), i + d = s.size → n ≤ i →
    Ev (fun k => handle_isScreenName.l0 k s (n : Int) (s.size : Int) (i : Int)) ((s.data.toList.drop i).all okc && (lastok (s.data.toList.drop i) && decide (n + (s.data.toList.drop i).count 64 ≤ 1))) := by
  have hhl : hl = 68719476736 := rfl
  intro d
  induction d with
  | zero =>
    intro i n hi hn
    refine Ev.step (fun k => ?_) (Ev.now _)
    simp only [handle_isScreenName.l0]
    rw [if_neg (by omega), List.drop_of_length_le (by rw [U.len_data]; omega)]
    congr 1
    by_cases h : n ≤ 1
    · rw [decide_eq_true (show (n : Int) ≤ 1 by omega)]; simp [lastok, h]
    · rw [decide_eq_false (show ¬ (n : Int) ≤ 1 by omega)]; simp [lastok, h]
  | succ d ih =>
    intro i n hi hn
    have hlt : i < s.size := by omega
    have hrest : d = 0 ↔ s.data.toList.drop (i + 1) = [] := by
      rw [List.drop_eq_nil_iff, U.len_data]; omega
    rw [U.u8_at s i hlt]
    obtain ⟨c, hc⟩ : ∃ c, c = s[i] := ⟨_, rfl⟩
    rw [← hc]
    have hstep : ∀ k, handle_isScreenName.l0 (k + 1) s (n : Int) (s.size : Int) (i : Int) =
        if c = 64 then (if d = 0 then some false else handle_isScreenName.l0 k s ((n + 1 : Nat) : Int) (s.size : Int) ((i + 1 : Nat) : Int))
        else if c = 32 then (if d = 0 then some false else handle_isScreenName.l0 k s (n : Int) (s.size : Int) ((i + 1 : Nat) : Int))
        else if c = 46 then handle_isScreenName.l0 k s (n : Int) (s.size : Int) ((i + 1 : Nat) : Int)
        else if letterB c = true then handle_isScreenName.l0 k s (n : Int) (s.size : Int) ((i + 1 : Nat) : Int)
        else if digitB c = true then handle_isScreenName.l0 k s (n : Int) (s.size : Int) ((i + 1 : Nat) : Int) else some false := by
      intro k
      simp only [handle_isScreenName.l0]
      rw [if_pos (by omega), if_pos (by omega), if_pos (by omega), bt_get s i hlt _ rfl, ← hc, w64 ((s.size : Int) - 1) (by omega) (by omega), wsucc i (by omega), wsucc n (by omega)]
      have e1 : ((i : Int) = (s.size : Int) - 1) = (d = 0) := by rw [eq_iff_iff]; omega
      simp only [e1, i64, i32, i46, isLetter_eq, isDigit_eq, Option.bind_some]
    by_cases h64 : c = 64
    · by_cases hd : d = 0
      · refine Ev.step (f := fun _ => some false) (fun k => by rw [hstep, if_pos h64, if_pos hd]) ?_
        rw [hrest.mp hd, h64]; simp [lastok]
        exact Ev.now _
      · refine Ev.step (fun k => by rw [hstep, if_pos h64, if_neg hd]) ?_
        refine cast (congrArg _ ?_) (ih (i + 1) (n + 1) (by omega) (by omega))
        rw [lastok_cons c _ (.inl fun e => hd (hrest.mpr e)), List.all_cons, List.count_cons, h64]
        have : okc 64 = true := by decide
        rw [this]
        simp only [Bool.true_and, beq_self_eq_true, if_true]
        congr 3
        rw [eq_iff_iff]; omega
    · by_cases h32 : c = 32
      · by_cases hd : d = 0
        · refine Ev.step (f := fun _ => some false) (fun k => by rw [hstep, if_neg h64, if_pos h32, if_pos hd]) ?_
          rw [hrest.mp hd, h32]; simp [lastok]
          exact Ev.now _
        · refine Ev.step (fun k => by rw [hstep, if_neg h64, if_pos h32, if_neg hd]) ?_
          refine cast (congrArg _ ?_) (ih (i + 1) n (by omega) (by omega))
          rw [lastok_cons c _ (.inl fun e => hd (hrest.mpr e)), List.all_cons, List.count_cons, h32]
          have : okc 32 = true := by decide
          rw [this]; rfl
      · have hcnt : (c :: s.data.toList.drop (i + 1)).count 64 = (s.data.toList.drop (i + 1)).count 64 := by
          rw [List.count_cons, if_neg (by rw [beq_iff_eq]; exact h64)]; rfl
        have hlo := lastok_cons c (s.data.toList.drop (i + 1)) (.inr ⟨h32, h64⟩)
        rw [hcnt, hlo, List.all_cons]
        by_cases h46 : c = 46
        · refine Ev.step (fun k => by rw [hstep, if_neg h64, if_neg h32, if_pos h46]) ?_
          have : okc c = true := by rw [h46]; decide
          rw [this]
          exact ih (i + 1) n (by omega) (by omega)
        · rw [okc_or c h64 h32 h46]
          cases hL : letterB c with
          | true =>
            refine Ev.step (fun k => by rw [hstep, if_neg h64, if_neg h32, if_neg h46, hL, if_pos rfl]) ?_
            exact ih (i + 1) n (by omega) (by omega)
          | false =>
            cases hD : digitB c with
            | true =>
              refine Ev.step (fun k => by rw [hstep, if_neg h64, if_neg h32, if_neg h46, hL, hD, if_neg (by decide), if_pos rfl]) ?_
              exact ih (i + 1) n (by omega) (by omega)
            | false => exact Ev.step (f := fun _ => some false) (fun k => by rw [hstep, if_neg h64, if_neg h32, if_neg h46, hL, hD, if_neg (by decide), if_neg (by decide)]) (Ev.now _)
theorem norm_pos (s : ByteArray) (h : ¬ ((normB s).size : Int) < 3) : 3 ≤ s.size := by have := normB_size s; omega
theorem normB_len (s : ByteArray) : (norm s.data.toList).length = (normB s).size := by rw [← U.len_data]; rfl
theorem snB_eq (s : ByteArray) : snB s.data.toList = (decide (3 ≤ (normB s).size) && (decide (s.size ≤ 16) && ((match s.data.toList.head? with | some c => letterB c | none => false) && (s.data.toList.all okc && (lastok s.data.toList && decide (s.data.toList.count 64 ≤ 1)))))) := by
  unfold snB lastok
  rw [normB_len, U.len_data]
  generalize s.data.toList.all okc = x1
  generalize (s.data.toList.getLast? != some 32) = x2
  generalize (s.data.toList.getLast? != some 64) = x3
  generalize decide (s.data.toList.count 64 ≤ 1) = x4
  cases x1 <;> cases x2 <;> cases x3 <;> cases x4 <;> rfl
theorem sn_ev (s : ByteArray) (hs : s.size ≤ hl) : Ev (fun k => handle_isScreenName.f k s) (snB s.data.toList) := by
  have hj : ∀ b, Ev (fun k => handle_isScreenName.j0 k s b) (!b && (s.data.toList.all okc && (lastok s.data.toList && decide (s.data.toList.count 64 ≤ 1)))) := by
    intro b
    cases b with
    | true => exact Ev.step (f := fun _ => some false) (fun k => by simp only [handle_isScreenName.j0, if_true]) (Ev.now _)
    | false =>
      refine Ev.step (fun k => by simp only [handle_isScreenName.j0]; rw [if_neg (by decide)]) ?_
      have := sn_loop s hs s.size 0 0 (by omega) (by omega)
      rw [List.drop_zero, Nat.zero_add] at this
      exact this
  rw [snB_eq]
  unfold handle_isScreenName.f handle_Norm.f
  simp only [if_pos hs, Option.bind_some]
  by_cases h3 : ((normB s).size : Int) < 3
  · simp only [if_pos h3]
    rw [decide_eq_false (show ¬ 3 ≤ (normB s).size by omega)]
    exact hj true
  · have hp := norm_pos s h3
    simp only [if_neg h3]
    rw [decide_eq_true (show 3 ≤ (normB s).size by omega)]
    by_cases h16 : (s.size : Int) > 16
    · simp only [if_pos h16]
      rw [decide_eq_false (show ¬ s.size ≤ 16 by omega)]
      exact hj true
    · simp only [if_neg h16, if_pos (show 0 < (s.size : Int) by omega)]
      rw [decide_eq_true (show s.size ≤ 16 by omega), bt_get s 0 (by omega) 0 rfl, isLetter_eq, head_at s (by omega)]
      simp only [Option.bind_some]
      have := hj (!(letterB s[0]))
      rw [Bool.not_not] at this
      exact this
theorem check_ev (s : ByteArray) (hs : s.size ≤ hl) : Ev (fun k => handle_Check.f k s) (if isName s.data.toList then 0 else 40) := by
  unfold handle_Check.f
  refine Ev.bind (isNumber_ev s hs) ?_
  unfold isName
  cases numB s.data.toList with
  | true => exact Ev.now _
  | false =>
    simp only [Bool.false_eq_true, if_false, Bool.false_or]
    refine Ev.bind (sn_ev s hs) ?_
    cases snB s.data.toList with
    | true => exact Ev.now _
    | false => exact Ev.now _
end Go.Proofs.YtnaimienfgpgmaaDoor.HanQ

/- The reference's names, and names' addresses, as printed: what they come to. Plain. -/
set_option linter.unusedVariables false
set_option linter.unusedSimpArgs false
namespace Go.Proofs.YtnaimienfgpgmaaDoor.HanQ
open Go.RowKit Gly Rep Han EscP HanP F Rc RaP Go.Proofs.YtnaimienfgpgmaaDoorW.PrintWords Go.Proofs.YtnaimienfgpgmaaDoorW.PrintLast Go.Proofs.YtnaimienfgpgmaaDoorW.PrintMore

theorem one_at (s : ByteArray) (i : Nat) (h : i < s.size) (a b : Int) (ha : a = i) (hb : b = ((i + 1 : Nat) : Int)) : (s.extract a.toNat b.toNat).data.toList = [s[i]] := by
  subst ha; subst hb
  rw [show ((i : Int)).toNat = i by omega, show (((i + 1 : Nat) : Int)).toNat = i + 1 by omega, U.one_data s i h]
theorem size_of (s : ByteArray) (l : List UInt8) (h : s.data.toList = l) : s.size = l.length := by rw [← h, U.len_data]
theorem rnorm_loop (s : ByteArray) (hs : s.size ≤ hl) : ∀ (d i : Nat) (acc : ByteArray), i + d = s.size → acc.size ≤ i →
    Ev (fun k => wharfref04_Norm.l0 k s acc (i : Int)) ⟨((acc.data.toList ++ without 32 (s.data.toList.drop i)).map low).toArray⟩ := by
  have hhl : hl = 68719476736 := rfl
  intro d
  induction d with
  | zero =>
    intro i acc hi ha
    refine Ev.step (fun k => ?_) (Ev.now _)
    simp only [wharfref04_Norm.l0]
    rw [if_neg (by omega), List.drop_of_length_le (by rw [U.len_data]; omega)]
    unfold wharfref01_Fold.f
    rw [if_pos (by unfold rlim; omega)]
    simp [without]
  | succ d ih =>
    intro i acc hi ha
    have hlt : i < s.size := by omega
    have hone := one_at s i hlt (i : Int) (((i + 1 : Nat) : Int)) rfl rfl
    have hstep : ∀ k, wharfref04_Norm.l0 (k + 1) s acc (i : Int) = if s[i] = 32 then wharfref04_Norm.l0 k s acc ((i + 1 : Nat) : Int) else wharfref04_Norm.l0 k s (acc ++ s.extract (i : Int).toNat (((i + 1 : Nat) : Int)).toNat) ((i + 1 : Nat) : Int) := by
      intro k
      simp only [wharfref04_Norm.l0]
      have hsz : (s.extract (i : Int).toNat (((i + 1 : Nat) : Int)).toNat).size = 1 := size_of _ _ hone
      rw [if_pos (by omega), if_pos (by omega), bt_get s i hlt _ rfl, wsucc i (by omega)]
      have e32 : ((s[i].toNat : Int) = 32) = (s[i] = 32) := i32 _
      have g1 := eq_true (show (i : Int) ≤ ((i + 1 : Nat) : Int) by omega)
      have g2 := eq_true (show ((i + 1 : Nat) : Int) ≤ (s.size : Int) by omega)
      have g3 := eq_true (show acc.size + 1 ≤ 9223372036854775807 by omega)
      simp only [e32, g1, g2, hsz, g3, if_true]
    rw [U.u8_at s i hlt]
    by_cases h : s[i] = 32
    · refine Ev.step (fun k => by rw [hstep, if_pos h]) ?_
      have := ih (i + 1) acc (by omega) (by omega)
      unfold without at this ⊢
      rw [List.filter_cons, if_neg (by rw [bne_iff_ne]; exact fun hn => hn h)]
      exact this
    · refine Ev.step (fun k => by rw [hstep, if_neg h]) ?_
      have hz : (acc ++ s.extract (i : Int).toNat (((i + 1 : Nat) : Int)).toNat).size ≤ i + 1 := by
        rw [size_of _ _ (U.append_data _ _), List.length_append, hone, U.len_data]; simp; omega
      have := ih (i + 1) (acc ++ s.extract (i : Int).toNat (((i + 1 : Nat) : Int)).toNat) (by omega) hz
      rw [U.append_data, hone] at this
      unfold without at this ⊢
      rw [List.filter_cons, if_pos (by rw [bne_iff_ne]; exact h)]
      simpa using this
theorem rnorm_ev (s : ByteArray) (hs : s.size ≤ hl) : Ev (fun k => wharfref04_Norm.f k s) (normB s) := by
  have := rnorm_loop s hs s.size 0 ⟨#[]⟩ (by omega) (by decide)
  rw [List.drop_zero, show (⟨#[]⟩ : ByteArray).data.toList = [] from rfl, List.nil_append, norm_swap] at this
  exact this

theorem ris_loop (s : ByteArray) (hs : s.size ≤ hl) : ∀ (d i : Nat) (n : Nat), i + d = s.size → n ≤ i →
    Ev (fun k => wharfref04_Is.l0 k s (n : Int) (i : Int)) ((s.data.toList.drop i).all okc && decide (n + (s.data.toList.drop i).count 64 ≤ 1)) := by
  have hhl : hl = 68719476736 := rfl
  intro d
  induction d with
  | zero =>
    intro i n hi hn
    refine Ev.step (fun k => ?_) (Ev.now _)
    simp only [wharfref04_Is.l0]
    rw [if_neg (by omega), List.drop_of_length_le (by rw [U.len_data]; omega)]
    congr 1
    by_cases h : n ≤ 1
    · rw [decide_eq_true (show (n : Int) ≤ 1 by omega)]; simp [h]
    · rw [decide_eq_false (show ¬ (n : Int) ≤ 1 by omega)]; simp [h]
  | succ d ih =>
    intro i n hi hn
    have hlt : i < s.size := by omega
    rw [U.u8_at s i hlt]
    obtain ⟨c, hc⟩ : ∃ c, c = s[i] := ⟨_, rfl⟩
    rw [← hc]
    have e64 : ((c.toNat : Int) = 64) = (c = 64) := i64 c
    have e32 : ((c.toNat : Int) = 32) = (c = 32) := i32 c
    have e46 : ((c.toNat : Int) = 46) = (c = 46) := i46 c
    have b64 : ((c.toNat : Int) != 64) = (c != 64) := by rw [Bool.eq_iff_iff, bne_iff_ne, bne_iff_ne, ne_eq, ne_eq, e64]
    have hj : ∀ (b : Bool) (r : Bool), (b = false → okc c = true) → (b = true → r = false) → (b = false → r = ((s.data.toList.drop (i + 1)).all okc && decide (n + (c :: s.data.toList.drop (i + 1)).count 64 ≤ 1))) → Ev (fun k => wharfref04_Is.j2 k s (n : Int) (i : Int) b) r := by
      intro b r _ h1 h2
      cases b with
      | true =>
        rw [h1 rfl]
        exact Ev.step (f := fun _ => some false) (fun k => by simp only [wharfref04_Is.j2, if_true]) (Ev.now _)
      | false =>
        rw [h2 rfl]
        have hstep : ∀ k, wharfref04_Is.j2 (k + 1) s (n : Int) (i : Int) false = if c = 64 then wharfref04_Is.l0 k s ((n + 1 : Nat) : Int) ((i + 1 : Nat) : Int) else wharfref04_Is.l0 k s (n : Int) ((i + 1 : Nat) : Int) := by
          intro k
          simp only [wharfref04_Is.j2]
          rw [if_neg (by decide), if_pos (by omega), if_pos (by omega), bt_get s i hlt _ rfl, ← hc, wsucc i (by omega), wsucc n (by omega)]
          simp only [e64]
        by_cases h64 : c = 64
        · refine Ev.step (fun k => by rw [hstep, if_pos h64]) ?_
          refine cast (congrArg _ ?_) (ih (i + 1) (n + 1) (by omega) (by omega))
          rw [List.count_cons, h64]
          simp only [beq_self_eq_true, if_true]
          congr 2
          rw [eq_iff_iff]; omega
        · refine Ev.step (fun k => by rw [hstep, if_neg h64]) ?_
          refine cast (congrArg _ ?_) (ih (i + 1) n (by omega) (by omega))
          rw [List.count_cons, if_neg (by rw [beq_iff_eq]; exact h64)]; rfl
    have hstep : ∀ k, wharfref04_Is.l0 (k + 1) s (n : Int) (i : Int) = if letterB c = true then wharfref04_Is.j2 k s (n : Int) (i : Int) false else if digitB c = true then wharfref04_Is.j2 k s (n : Int) (i : Int) false else if c = 32 then wharfref04_Is.j2 k s (n : Int) (i : Int) false else if c = 46 then wharfref04_Is.j2 k s (n : Int) (i : Int) false else wharfref04_Is.j2 k s (n : Int) (i : Int) (c != 64) := by
      intro k
      simp only [wharfref04_Is.l0]
      rw [if_pos (by omega), if_pos (by omega), bt_get s i hlt _ rfl, ← hc]
      simp only [rletter_eq, rdigit_eq, Option.bind_some, e32, e46, b64]
    have hok : okc c = true → Ev (fun k => wharfref04_Is.j2 k s (n : Int) (i : Int) false) ((c :: s.data.toList.drop (i + 1)).all okc && decide (n + (c :: s.data.toList.drop (i + 1)).count 64 ≤ 1)) := by
      intro ho
      exact hj false _ (fun _ => ho) (fun h => by cases h) (fun _ => by rw [List.all_cons, ho, Bool.true_and])
    cases hL : letterB c with
    | true =>
      refine Ev.step (fun k => by rw [hstep, hL, if_pos rfl]) (hok ?_)
      unfold okc; rw [hL]; simp
    | false =>
      cases hD : digitB c with
      | true =>
        refine Ev.step (fun k => by rw [hstep, hL, hD, if_neg (by decide), if_pos rfl]) (hok ?_)
        unfold okc; rw [hD]; simp
      | false =>
        by_cases h32 : c = 32
        · refine Ev.step (fun k => by rw [hstep, hL, hD, if_neg (by decide), if_neg (by decide), if_pos h32]) (hok (by rw [h32]; decide))
        · by_cases h46 : c = 46
          · refine Ev.step (fun k => by rw [hstep, hL, hD, if_neg (by decide), if_neg (by decide), if_neg h32, if_pos h46]) (hok (by rw [h46]; decide))
          · refine Ev.step (fun k => by rw [hstep, hL, hD, if_neg (by decide), if_neg (by decide), if_neg h32, if_neg h46]) ?_
            by_cases h64 : c = 64
            · have : (c != 64) = false := by rw [h64]; rfl
              rw [this]
              exact hok (by rw [h64]; decide)
            · have hne : (c != 64) = true := by rw [bne_iff_ne]; exact h64
              have hno : okc c = false := by rw [okc_or c h64 h32 h46, hL, hD]; rfl
              rw [hne]
              exact hj true _ (fun h => by cases h) (fun _ => by rw [List.all_cons, hno]; rfl) (fun h => by cases h)
theorem last_at (s : ByteArray) (h : 0 < s.size) : s.data.toList.getLast? = some (s[s.size - 1]'(by omega)) := by
  rw [getLast_at _ (by rw [U.len_data]; exact h)]
  simp only [U.len_data]; rfl
theorem ris_ev (s : ByteArray) (hs : s.size ≤ hl) : Ev (fun k => wharfref04_Is.f k s) (isName s.data.toList) := by
  have hhl : hl = 68719476736 := rfl
  have hj : ∀ b, Ev (fun k => wharfref04_Is.j0 k s b) (!b && (s.data.toList.all okc && decide (s.data.toList.count 64 ≤ 1))) := by
    intro b
    cases b with
    | true => exact Ev.step (f := fun _ => some false) (fun k => by simp only [wharfref04_Is.j0, if_true]) (Ev.now _)
    | false =>
      refine Ev.step (fun k => by simp only [wharfref04_Is.j0]; rw [if_neg (by decide)]) ?_
      have := ris_loop s hs s.size 0 0 (by omega) (by omega)
      rw [List.drop_zero, Nat.zero_add] at this
      exact this
  unfold wharfref04_Is.f
  refine Ev.bind (rnumber_ev s hs) ?_
  unfold isName
  cases numB s.data.toList with
  | true => exact Ev.now _
  | false =>
    simp only [Bool.false_eq_true, if_false, Bool.false_or]
    refine Ev.bind (rnorm_ev s hs) ?_
    rw [snB_eq]
    by_cases h3 : ((normB s).size : Int) < 3
    · simp only [if_pos h3]
      rw [decide_eq_false (show ¬ 3 ≤ (normB s).size by omega)]
      exact hj true
    · have hp := norm_pos s h3
      have h0 : 0 < s.size := by omega
      simp only [if_neg h3]
      rw [decide_eq_true (show 3 ≤ (normB s).size by omega)]
      by_cases h16 : (s.size : Int) > 16
      · simp only [if_pos h16]
        rw [decide_eq_false (show ¬ s.size ≤ 16 by omega)]
        exact hj true
      · have g1 := eq_true (show 0 < (s.size : Int) by omega)
        have g2 := eq_true (show (0 : Int) ≤ (s.size : Int) - 1 by omega)
        have g3 := eq_true (show (s.size : Int) - 1 < (s.size : Int) by omega)
        have gw : wrap64 ((s.size : Int) - 1) = (s.size : Int) - 1 := w64 _ (by omega) (by omega)
        have gb : bt s ((s.size : Int) - 1) = ((s[s.size - 1]'(by omega)).toNat : Int) := bt_get s (s.size - 1) (by omega) _ (by omega)
        have gb0 : bt s 0 = ((s[0].toNat : Nat) : Int) := bt_get s 0 h0 0 rfl
        simp only [if_neg h16, g1, if_true, gb0, rletter_eq, Option.bind_some, gw, g2, g3, gb]
        rw [decide_eq_true (show s.size ≤ 16 by omega), head_at s h0]
        unfold lastok
        rw [last_at s h0]
        obtain ⟨z, hz⟩ : ∃ z, z = s[s.size - 1]'(by omega) := ⟨_, rfl⟩
        rw [← hz]
        have e32 : ((z.toNat : Int) = 32) = (z = 32) := i32 z
        have b64 : ((z.toNat : Int) == 64) = (z == 64) := by rw [Bool.eq_iff_iff, beq_iff_eq, beq_iff_eq]; rw [i64 z]
        simp only [e32, b64]
        cases hL : letterB s[0] with
        | false =>
          simp only [Bool.false_eq_true, if_false]
          exact hj true
        | true =>
          simp only [if_true]
          by_cases h32 : z = 32
          · simp only [if_pos h32]
            refine cast (congrArg _ ?_) (hj true)
            rw [h32]; simp
          · simp only [if_neg h32]
            refine cast (congrArg _ ?_) (hj (z == 64))
            have a1 : (some z != some 32) = true := by rw [bne_iff_ne]; intro h; exact h32 (Option.some.inj h)
            have a2 : (some z != some 64) = !(z == 64) := by rw [bne]; rfl
            rw [a1, a2]
            generalize s.data.toList.all okc = x1
            generalize decide (s.data.toList.count 64 ≤ 1) = x2
            generalize (z == 64) = x3
            cases x1 <;> cases x2 <;> cases x3 <;> rfl

/-! ### addresses -/
def bad4 : ByteArray × ByteArray × ByteArray × Int := (⟨#[]⟩, ⟨#[]⟩, ⟨#[]⟩, 40)
/-- Has a name an address? -/
def hasJ (s d : ByteArray) : Bool := isName s.data.toList && JidP.ok ⟨escG (norm s.data.toList), d.data.toList, []⟩
def toV (s d : ByteArray) : ByteArray × ByteArray × ByteArray × Int := if hasJ s d then (⟨(escG (norm s.data.toList)).toArray⟩, d, ⟨#[]⟩, 0) else bad4
theorem esc_size (s : ByteArray) (hs : s.size ≤ 1000000) : (⟨(escG (norm s.data.toList)).toArray⟩ : ByteArray).size ≤ 3000000 := by
  have h1 := escG_le (norm s.data.toList)
  have h2 := norm_len s.data.toList
  rw [U.len_data] at h2
  rw [size_of _ _ rfl]
  show (escG (norm s.data.toList)).length ≤ _
  omega
theorem toJid_ev (s d : ByteArray) (hs : s.size ≤ 1000000) (hd : d.size ≤ 1000000) : Ev (fun k => handle_ToJid.f k s d) (toV s d) := by
  have hhl : s.size ≤ hl := by unfold hl; omega
  unfold handle_ToJid.f
  refine Ev.bind (check_ev s hhl) ?_
  unfold toV hasJ
  cases hn : isName s.data.toList with
  | false => exact Ev.now _
  | true =>
    have hb := isName_bad _ hn
    simp only [if_true, Bool.true_and]
    unfold handle_Norm.f escape_Escape.f jid_Check.f
    have hz := normB_size s
    have hb2 : bad (normB s).data.toList = false := hb
    have he := esc_size s hs
    simp only [if_pos hhl, Option.bind_some]
    rw [if_pos (show (normB s).size ≤ F.lim by unfold F.lim; omega), hb2]
    simp only [Bool.false_eq_true, if_false, Option.bind_some, if_true]
    rw [if_pos (show jl3 (⟨(escG (normB s).data.toList).toArray⟩ : ByteArray) d ⟨#[]⟩ from ⟨by unfold jl; have : (escG (normB s).data.toList) = escG (norm s.data.toList) := rfl; rw [this]; omega, by unfold jl; omega, by decide⟩)]
    simp only [Option.bind_some]
    have ej : Jid.jOf (⟨(escG (normB s).data.toList).toArray⟩ : ByteArray) d ⟨#[]⟩ = ⟨escG (norm s.data.toList), d.data.toList, []⟩ := rfl
    rw [ej]
    cases JidP.ok ⟨escG (norm s.data.toList), d.data.toList, []⟩ with
    | true => exact Ev.now _
    | false => exact Ev.now _
theorem rtoJid_ev (s d : ByteArray) (hs : s.size ≤ 1000000) (hd : d.size ≤ 1000000) : Ev (fun k => wharfref04_ToJid.f k s d) (toV s d) := by
  have hhl : s.size ≤ hl := by unfold hl; omega
  unfold wharfref04_ToJid.f
  refine Ev.bind (ris_ev s hhl) ?_
  unfold toV hasJ
  cases hn : isName s.data.toList with
  | false => exact Ev.now _
  | true =>
    have hb := isName_bad _ hn
    simp only [if_true, Bool.true_and]
    refine Ev.bind (rnorm_ev s hhl) ?_
    unfold wharfref02_Escape.f wharfref03_Is.f
    have hz := normB_size s
    have hb2 : bad (normB s).data.toList = false := hb
    have he := esc_size s hs
    rw [if_pos (show (normB s).size ≤ F.lim by unfold F.lim; omega), hb2]
    simp only [Bool.false_eq_true, if_false, Option.bind_some, if_true]
    rw [if_pos (show jl3 (⟨(escG (normB s).data.toList).toArray⟩ : ByteArray) d ⟨#[]⟩ from ⟨by unfold jl; have : (escG (normB s).data.toList) = escG (norm s.data.toList) := rfl; rw [this]; omega, by unfold jl; omega, by decide⟩)]
    simp only [Option.bind_some]
    have ej : Jid.jOf (⟨(escG (normB s).data.toList).toArray⟩ : ByteArray) d ⟨#[]⟩ = ⟨escG (norm s.data.toList), d.data.toList, []⟩ := rfl
    rw [ej]
    cases JidP.ok ⟨escG (norm s.data.toList), d.data.toList, []⟩ with
    | true => exact Ev.now _
    | false => exact Ev.now _
def fromB (n d dom : ByteArray) : Bool := d.data.toList == dom.data.toList && (isName (un n.data.toList) && norm (un n.data.toList) == un n.data.toList)
def fromV (n d dom : ByteArray) : ByteArray × Int := if fromB n d dom then (⟨(un n.data.toList).toArray⟩, 0) else (⟨#[]⟩, 40)
theorem un_size (n : ByteArray) : (⟨(un n.data.toList).toArray⟩ : ByteArray).size ≤ n.size := by
  rw [size_of _ _ rfl]
  show (un n.data.toList).length ≤ _
  have := EscL.unG_le n.data.toList.length true n.data.toList
  rw [U.len_data] at this
  exact this
theorem fromJid_ev (n d r dom : ByteArray) (hs : n.size ≤ 1000000) : Ev (fun k => handle_FromJid.f k n d r dom) (fromV n d dom) := by
  have hu := un_size n
  unfold handle_FromJid.f escape_Unescape.f
  simp only [if_pos (show n.size ≤ F.lim by unfold F.lim; omega), Option.bind_some]
  obtain ⟨u, hu2⟩ : ∃ u : ByteArray, u = ⟨(un n.data.toList).toArray⟩ := ⟨_, rfl⟩
  have hud : u.data.toList = un n.data.toList := by rw [hu2]
  unfold fromV fromB
  rw [← hu2] at hu ⊢
  rw [← hud]
  have hhl : u.size ≤ hl := by unfold hl; omega
  have ed : (d.toList = dom.toList) = (d.data.toList = dom.data.toList) := by rw [Lib.toList_data, Lib.toList_data]
  simp only [ed]
  by_cases hd : d.data.toList = dom.data.toList
  · have hdb : (d.data.toList == dom.data.toList) = true := by rw [beq_iff_eq]; exact hd
    simp only [if_pos hd, hdb, Bool.true_and]
    refine Ev.bind (check_ev u hhl) ?_
    cases hn : isName u.data.toList with
    | false => exact Ev.now _
    | true =>
      simp only [if_true, Bool.true_and]
      unfold handle_Norm.f
      simp only [if_pos hhl, Option.bind_some]
      have en : ((normB u).toList = u.toList) = (norm u.data.toList = u.data.toList) := by rw [Lib.toList_data, Lib.toList_data]; rfl
      simp only [en]
      by_cases hq : norm u.data.toList = u.data.toList
      · have hqb : (norm u.data.toList == u.data.toList) = true := by rw [beq_iff_eq]; exact hq
        simp only [if_pos hq, hqb, if_true]
        exact Ev.now _
      · have hqb : (norm u.data.toList == u.data.toList) = false := by rw [beq_eq_false_iff_ne]; exact hq
        simp only [if_neg hq, hqb, Bool.false_eq_true, if_false]
        exact Ev.now _
  · have hdb : (d.data.toList == dom.data.toList) = false := by rw [beq_eq_false_iff_ne]; exact hd
    simp only [if_neg hd, hdb, Bool.false_and, Bool.false_eq_true, if_false]
    exact Ev.now _
theorem rfromJid_ev (n d r dom : ByteArray) (hs : n.size ≤ 1000000) : Ev (fun k => wharfref04_FromJid.f k n d r dom) (fromV n d dom) := by
  have hu := un_size n
  unfold wharfref04_FromJid.f wharfref02_Unescape.f
  simp only [if_pos (show n.size ≤ F.lim by unfold F.lim; omega), Option.bind_some]
  obtain ⟨u, hu2⟩ : ∃ u : ByteArray, u = ⟨(un n.data.toList).toArray⟩ := ⟨_, rfl⟩
  have hud : u.data.toList = un n.data.toList := by rw [hu2]
  unfold fromV fromB
  rw [← hu2] at hu ⊢
  rw [← hud]
  have hhl : u.size ≤ hl := by unfold hl; omega
  have ed : (d.toList = dom.toList) = (d.data.toList = dom.data.toList) := by rw [Lib.toList_data, Lib.toList_data]
  simp only [ed]
  by_cases hd : d.data.toList = dom.data.toList
  · have hdb : (d.data.toList == dom.data.toList) = true := by rw [beq_iff_eq]; exact hd
    simp only [if_pos hd, hdb, Bool.true_and]
    refine Ev.bind (ris_ev u hhl) ?_
    cases hn : isName u.data.toList with
    | false => exact Ev.now _
    | true =>
      simp only [if_true, Bool.true_and]
      refine Ev.bind (rnorm_ev u hhl) ?_
      have en : ((normB u).toList = u.toList) = (norm u.data.toList = u.data.toList) := by rw [Lib.toList_data, Lib.toList_data]; rfl
      simp only [en]
      by_cases hq : norm u.data.toList = u.data.toList
      · have hqb : (norm u.data.toList == u.data.toList) = true := by rw [beq_iff_eq]; exact hq
        simp only [if_pos hq, hqb, if_true]
        exact Ev.now _
      · have hqb : (norm u.data.toList == u.data.toList) = false := by rw [beq_eq_false_iff_ne]; exact hq
        simp only [if_neg hq, hqb, Bool.false_eq_true, if_false]
        exact Ev.now _
  · have hdb : (d.data.toList == dom.data.toList) = false := by rw [beq_eq_false_iff_ne]; exact hd
    simp only [if_neg hd, hdb, Bool.false_and, Bool.false_eq_true, if_false]
    exact Ev.now _
end Go.Proofs.YtnaimienfgpgmaaDoor.HanQ

/- Layer 4's functions as the printed laws want them: without rounds. -/
set_option linter.unusedVariables false
set_option linter.unusedSimpArgs false
namespace Go.Proofs.YtnaimienfgpgmaaDoor.F
open Go.RowKit HanP HanQ Han
/-- A bound on lengths. -/
def hm : Nat := 1000000
theorem hm_hl {s : ByteArray} (h : s.size ≤ hm) : s.size ≤ hl := by unfold hm at h; unfold hl; omega
def handle_Check.f (s : ByteArray) : Option Int := if s.size ≤ hm then some (if isName s.data.toList then 0 else 40) else none
theorem handle_Check.calls (s : ByteArray) (r : Int) (w : World) (h : handle_Check.f s = some r) :
    Calls Tryd.prog 10 #[.string s] w fun e w' => e = .returned (.int .i64 r) ∧ Below w.heap.size w w' := by
  unfold handle_Check.f at h
  by_cases hc : s.size ≤ hm
  · rw [if_pos hc] at h
    obtain ⟨k, hk⟩ := (check_ev s (hm_hl hc)).rounds
    rw [Option.some.inj h] at hk
    exact Rc.handle_Check.calls k s r w hk
  · rw [if_neg hc] at h; cases h
def handle_ToJid.f (s d : ByteArray) : Option (ByteArray × ByteArray × ByteArray × Int) := if s.size ≤ hm ∧ d.size ≤ hm then some (toV s d) else none
theorem handle_ToJid.calls (s d r1 r2 r3 : ByteArray) (r4 : Int) (w : World) (h : handle_ToJid.f s d = some (r1, r2, r3, r4)) :
    Calls Tryd.prog 15 #[.string s, .string d] w fun e w' => e = .returned (.tuple #[.agg #[.string r1, .string r2, .string r3], .int .i64 r4]) ∧ Below w.heap.size w w' := by
  unfold handle_ToJid.f at h
  by_cases hc : s.size ≤ hm ∧ d.size ≤ hm
  · rw [if_pos hc] at h
    obtain ⟨k, hk⟩ := (toJid_ev s d hc.1 hc.2).rounds
    rw [Option.some.inj h] at hk
    exact Rc.handle_ToJid.calls k s d r1 r2 r3 r4 w hk
  · rw [if_neg hc] at h; cases h
def wharfref04_ToJid.f (s d : ByteArray) : Option (ByteArray × ByteArray × ByteArray × Int) := if s.size ≤ hm ∧ d.size ≤ hm then some (toV s d) else none
theorem wharfref04_ToJid.calls (s d r1 r2 r3 : ByteArray) (r4 : Int) (w : World) (h : wharfref04_ToJid.f s d = some (r1, r2, r3, r4)) :
    Calls Tryd.prog 16 #[.string s, .string d] w fun e w' => e = .returned (.tuple #[.agg #[.string r1, .string r2, .string r3], .int .i64 r4]) ∧ Below w.heap.size w w' := by
  unfold wharfref04_ToJid.f at h
  by_cases hc : s.size ≤ hm ∧ d.size ≤ hm
  · rw [if_pos hc] at h
    obtain ⟨k, hk⟩ := (rtoJid_ev s d hc.1 hc.2).rounds
    rw [Option.some.inj h] at hk
    exact Rc.wharfref04_ToJid.calls k s d r1 r2 r3 r4 w hk
  · rw [if_neg hc] at h; cases h
def handle_FromJid.f (n d r dom : ByteArray) : Option (ByteArray × Int) := if n.size ≤ hm then some (fromV n d dom) else none
theorem handle_FromJid.calls (n d r dom r1 : ByteArray) (r2 : Int) (w : World) (h : handle_FromJid.f n d r dom = some (r1, r2)) :
    Calls Tryd.prog 17 #[.agg #[.string n, .string d, .string r], .string dom] w fun e w' => e = .returned (.tuple #[.string r1, .int .i64 r2]) ∧ Below w.heap.size w w' := by
  unfold handle_FromJid.f at h
  by_cases hc : n.size ≤ hm
  · rw [if_pos hc] at h
    obtain ⟨k, hk⟩ := (fromJid_ev n d r dom hc).rounds
    rw [Option.some.inj h] at hk
    exact Rc.handle_FromJid.calls k n d r dom r1 r2 w hk
  · rw [if_neg hc] at h; cases h
def wharfref04_FromJid.f (n d r dom : ByteArray) : Option (ByteArray × Int) := if n.size ≤ hm then some (fromV n d dom) else none
theorem wharfref04_FromJid.calls (n d r dom r1 : ByteArray) (r2 : Int) (w : World) (h : wharfref04_FromJid.f n d r dom = some (r1, r2)) :
    Calls Tryd.prog 18 #[.agg #[.string n, .string d, .string r], .string dom] w fun e w' => e = .returned (.tuple #[.string r1, .int .i64 r2]) ∧ Below w.heap.size w w' := by
  unfold wharfref04_FromJid.f at h
  by_cases hc : n.size ≤ hm
  · rw [if_pos hc] at h
    obtain ⟨k, hk⟩ := (rfromJid_ev n d r dom hc).rounds
    rw [Option.some.inj h] at hk
    exact Rc.wharfref04_FromJid.calls k n d r dom r1 r2 w hk
  · rw [if_neg hc] at h; cases h
def wharfref04_Is.f (s : ByteArray) : Option Bool := if s.size ≤ hm then some (isName s.data.toList) else none
theorem wharfref04_Is.calls (s : ByteArray) (r : Bool) (w : World) (h : wharfref04_Is.f s = some r) :
    Calls Tryd.prog 11 #[.string s] w fun e w' => e = .returned (.bool r) ∧ Below w.heap.size w w' := by
  unfold wharfref04_Is.f at h
  by_cases hc : s.size ≤ hm
  · rw [if_pos hc] at h
    obtain ⟨k, hk⟩ := (ris_ev s (hm_hl hc)).rounds
    rw [Option.some.inj h] at hk
    exact Rc.wharfref04_Is.calls k s r w hk
  · rw [if_neg hc] at h; cases h
def wharfref04_Norm.f (s : ByteArray) : Option ByteArray := if s.size ≤ hm then some (normB s) else none
theorem wharfref04_Norm.calls (s r : ByteArray) (w : World) (h : wharfref04_Norm.f s = some r) :
    Calls Tryd.prog 13 #[.string s] w fun e w' => e = .returned (.string r) ∧ Below w.heap.size w w' := by
  unfold wharfref04_Norm.f at h
  by_cases hc : s.size ≤ hm
  · rw [if_pos hc] at h
    obtain ⟨k, hk⟩ := (rnorm_ev s (hm_hl hc)).rounds
    rw [Option.some.inj h] at hk
    exact Rc.wharfref04_Norm.calls k s r w hk
  · rw [if_neg hc] at h; cases h
end Go.Proofs.YtnaimienfgpgmaaDoor.F

/- wharflaw04's helpers: num, live. -/
set_option linter.unusedVariables false
set_option linter.unusedSimpArgs false
namespace Go.Proofs.YtnaimienfgpgmaaDoor.HanL
open Go.RowKit F Jid

theorem num_at (n : Int) (w : World) : Calls Tryd.prog 9 #[.int .i64 n] w fun e w' => e = .returned (.int .i64 n) ∧ w = w' := by
  go_enter Tryd.func9, Tryd.ntmps9
  go_wp2
  go_ret
  exact ⟨rfl, rfl⟩
def sJoe : ByteArray := ⟨#[106, 111, 101, 64, 109, 97, 99, 46, 99, 111, 109]⟩
def sAim : ByteArray := ⟨#[97, 105, 109, 46, 120]⟩
def sEsc : ByteArray := ⟨#[106, 111, 101, 92, 52, 48, 109, 97, 99, 46, 99, 111, 109]⟩
theorem ex1 (w : World) : Calls Tryd.prog 15 #[.string ⟨#[106, 111, 101, 64, 109, 97, 99, 46, 99, 111, 109]⟩, .string ⟨#[97, 105, 109, 46, 120]⟩] w fun e w' =>
    e = .returned (.tuple #[.agg #[.string ⟨#[106, 111, 101, 92, 52, 48, 109, 97, 99, 46, 99, 111, 109]⟩, .string ⟨#[97, 105, 109, 46, 120]⟩, .string ⟨#[]⟩], .int .i64 0]) ∧ Below w.heap.size w w' :=
  handle_ToJid.calls _ _ _ _ _ _ w (by decide +kernel)
theorem ex2 (w : World) : Calls Tryd.prog 17 #[.agg #[.string ⟨#[106, 111, 101, 92, 52, 48, 109, 97, 99, 46, 99, 111, 109]⟩, .string ⟨#[97, 105, 109, 46, 120]⟩, .string ⟨#[]⟩], .string ⟨#[97, 105, 109, 46, 120]⟩] w fun e w' =>
    e = .returned (.tuple #[.string ⟨#[106, 111, 101, 64, 109, 97, 99, 46, 99, 111, 109]⟩, .int .i64 0]) ∧ Below w.heap.size w w' :=
  handle_FromJid.calls _ _ _ _ _ _ w (by decide +kernel)
theorem ex3 (w : World) : Calls Tryd.prog 17 #[.agg #[.string ⟨#[106, 111, 101, 92, 52, 48, 109, 97, 99, 46, 99, 111, 109]⟩, .string ⟨#[97, 105, 109, 46, 120]⟩, .string ⟨#[]⟩], .string ⟨#[105, 99, 113, 46, 120]⟩] w fun e w' =>
    e = .returned (.tuple #[.string ⟨#[]⟩, .int .i64 40]) ∧ Below w.heap.size w w' :=
  handle_FromJid.calls _ _ _ _ _ _ w (by decide +kernel)
theorem ex4 (w : World) : Calls Tryd.prog 10 #[.string ⟨#[48, 49, 50, 51, 52]⟩] w fun e w' => e = .returned (.int .i64 40) ∧ Below w.heap.size w w' :=
  handle_Check.calls _ _ w (by decide +kernel)
theorem ex5 (w : World) : Calls Tryd.prog 14 #[.string ⟨#[74, 111, 101, 32, 66, 108, 111, 119]⟩, .string ⟨#[106, 111, 101, 98, 108, 111, 119]⟩] w fun e w' => e = .returned (.bool true) ∧ Below w.heap.size w w' :=
  handle_Same.calls _ _ _ w (by decide +kernel)
theorem ex6 (w : World) : Calls Tryd.prog 12 #[.string ⟨#[74, 111, 101, 32, 66]⟩] w fun e w' => e = .returned (.string ⟨#[106, 111, 101, 98]⟩) ∧ Below w.heap.size w w' :=
  handle_Norm.calls _ _ w (by decide +kernel)
set_option maxHeartbeats 2000000 in
theorem hlive (w : World) : Calls Tryd.prog 8 #[] w fun e w' => e = .returned (.bool true) ∧ Below w.heap.size w w' := by
  have K0 := Lib.hid (Keep.start w)
  go_enter Tryd.func8, Tryd.ntmps8
  go_wp2_with fail
  refine (ex1 _).mono ?_
  rintro e w1 ⟨rfl, hb1⟩
  have K1 := Lib.hid ((K0.out.below hb1).alloc ⟨#[106, 111, 101, 92, 52, 48, 109, 97, 99, 46, 99, 111, 109]⟩ ⟨#[97, 105, 109, 46, 120]⟩ ⟨#[]⟩)
  clear hb1
  go_wp2_with fail
  refine (ex2 _).mono ?_
  rintro e w2 ⟨rfl, hb2⟩
  have K2 := Lib.hid (K1.out.below hb2)
  obtain ⟨c0, c1, c2⟩ := K2.out.box w1.heap.size _ _ _ List.mem_cons_self
  clear hb2
  go_wp2_with fail
  refine (ex3 _).mono ?_
  rintro e w3 ⟨rfl, hb3⟩
  have K3 := Lib.hid (K2.out.below hb3)
  obtain ⟨d0, d1, d2⟩ := K3.out.box w1.heap.size _ _ _ List.mem_cons_self
  clear hb3 c0 c1 c2
  go_wp2_with (first | (go_at_call 9; refine (num_at _ _).mono ?_; rintro e w' ⟨rfl, rfl⟩))
  refine (ex4 _).mono ?_
  rintro e w4 ⟨rfl, hb4⟩
  have K4 := Lib.hid (K3.out.below hb4)
  clear hb4 d0 d1 d2
  go_wp2_with (first | (go_at_call 9; refine (num_at _ _).mono ?_; rintro e w' ⟨rfl, rfl⟩))
  refine (ex5 _).mono ?_
  rintro e w5 ⟨rfl, hb5⟩
  have K5 := Lib.hid (K4.out.below hb5)
  clear hb5
  go_wp2_with fail
  refine (ex6 _).mono ?_
  rintro e w6 ⟨rfl, hb6⟩
  have K6 := Lib.hid (K5.out.below hb6)
  clear hb6
  go_wp2
  go_ret
  exact ⟨rfl, K6.out.low⟩
end Go.Proofs.YtnaimienfgpgmaaDoor.HanL
namespace Go.Proofs.YtnaimienfgpgmaaDoor.F
open Go.RowKit
def wharflaw04_live.f : Option Bool := some true
theorem wharflaw04_live.calls (r : Bool) (w : World) (h : wharflaw04_live.f = some r) :
    Calls Tryd.prog 8 #[] w fun e w' => e = .returned (.bool r) ∧ Below w.heap.size w w' := by
  obtain rfl := Option.some.inj h
  exact HanL.hlive w
end Go.Proofs.YtnaimienfgpgmaaDoor.F
