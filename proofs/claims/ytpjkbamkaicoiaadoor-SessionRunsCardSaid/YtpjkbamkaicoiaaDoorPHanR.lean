/- Contracts of functions of this translation, and what they come to; what is not used is left out. -/
import Derived.Test.YtpjkbamkaicoiaaDoorPHanQ
import Derived.Test.YtpjkbamkaicoiaaDoorPRaQ
import Derived.Test.YtpjkbamkaicoiaaDoorPRefJ
import Derived.Test.YtpjkbamkaicoiaaDoorPRefF
import Derived.Test.YtpjkbamkaicoiaaDoorPGlyA
import Derived.Test.YtpjkbamkaicoiaaDoorPGlyP
import Derived.Test.YtpjkbamkaicoiaaDoorPUtil
import Derived.Test.YtpjkbamkaicoiaaDoorPJidP
import Derived.Test.YtpjkbamkaicoiaaDoorPStrs
import Derived.Test.YtpjkbamkaicoiaaDoorPShelf
import Derived.Test.YtpjkbamkaicoiaaDoorPRaP
import Derived.Test.YtpjkbamkaicoiaaDoorPRa2
import Derived.Test.YtpjkbamkaicoiaaDoorPRa1
import Derived.Test.YtpjkbamkaicoiaaDoorPRa0
import Derived.Test.YtpjkbamkaicoiaaDoorPg0
import Derived.Test.YtpjkbamkaicoiaaDoorPHanP
import Derived.Test.YtpjkbamkaicoiaaDoorPEscB
import Derived.Test.YtpjkbamkaicoiaaDoorPEscA
import Derived.Test.YtpjkbamkaicoiaaDoorPEscP
import Derived.Test.YtpjkbamkaicoiaaDoorPBld
import Derived.Test.YtpjkbamkaicoiaaDoorPHanA
import Derived.Test.YtpjkbamkaicoiaaDoorPRep
import Derived.Test.YtpjkbamkaicoiaaDoorPRc3
import Derived.Test.YtpjkbamkaicoiaaDoorPRc2
import Derived.Test.YtpjkbamkaicoiaaDoorPRc1
import Derived.Test.YtpjkbamkaicoiaaDoorPRc0
import Derived.Test.YtpjkbamkaicoiaaDoorPHanF

section
/- The reference's names, and names' addresses, as printed: what they come to. Plain. -/
set_option linter.unusedVariables false
set_option linter.unusedSimpArgs false
namespace Go.Proofs.YtpjkbamkaicoiaaDoor.HanQ
open Go.RowKit Gly Rep Han EscP HanP F Rc RaP Go.Proofs.YtpjkbamkaicoiaaDoorW.PrintWords Go.Proofs.YtpjkbamkaicoiaaDoorW.PrintLast Go.Proofs.YtpjkbamkaicoiaaDoorW.PrintMore

theorem one_at (s : ByteArray) (i : Nat) (h : i < s.size) (a b : Int) (ha : a = i) (hb : b = ((i + 1 : Nat) : Int)) : (s.extract a.toNat b.toNat).data.toList = [s[i]] := by
  subst ha; subst hb
  rw [show ((i : Int)).toNat = i by omega, show (((i + 1 : Nat) : Int)).toNat = i + 1 by omega, U.one_data s i h]
theorem size_of (s : ByteArray) (l : List UInt8) (h : s.data.toList = l) : s.size = l.length := by rw [← h, U.len_data]
theorem rnorm_loop (s : ByteArray) (hs : s.size ≤ hl) : ∀ (d i : Nat) (acc : ByteArray), i + d = s.size → acc.size ≤ i →
    Ev (fun k => wharfref04_Norm.l0 k s acc (i : Int)) ⟨((acc.data.toList ++ without 32 (s.data.toList.drop i)).map low).toArray⟩ := by
  have hhl : hl = 68719476736 := rfl
  intro d
  induction d with
  | zero =>
    intro i acc hi ha
    refine Ev.step (fun k => ?_) (Ev.now _)
    simp only [wharfref04_Norm.l0]
    rw [if_neg (by omega), List.drop_of_length_le (by rw [U.len_data]; omega)]
    unfold wharfref01_Fold.f
    rw [if_pos (by unfold rlim; omega)]
    simp [without]
  | succ d ih =>
    intro i acc hi ha
    have hlt : i < s.size := by omega
    have hone := one_at s i hlt (i : Int) (((i + 1 : Nat) : Int)) rfl rfl
    have hstep : ∀ k, wharfref04_Norm.l0 (k + 1) s acc (i : Int) = if s[i] = 32 then wharfref04_Norm.l0 k s acc ((i + 1 : Nat) : Int) else wharfref04_Norm.l0 k s (acc ++ s.extract (i : Int).toNat (((i + 1 : Nat) : Int)).toNat) ((i + 1 : Nat) : Int) := by
      intro k
      simp only [wharfref04_Norm.l0]
      have hsz : (s.extract (i : Int).toNat (((i + 1 : Nat) : Int)).toNat).size = 1 := size_of _ _ hone
      rw [if_pos (by omega), if_pos (by omega), bt_get s i hlt _ rfl, wsucc i (by omega)]
      have e32 : ((s[i].toNat : Int) = 32) = (s[i] = 32) := i32 _
      have g1 := eq_true (show (i : Int) ≤ ((i + 1 : Nat) : Int) by omega)
      have g2 := eq_true (show ((i + 1 : Nat) : Int) ≤ (s.size : Int) by omega)
      have g3 := eq_true (show acc.size + 1 ≤ 9223372036854775807 by omega)
      simp only [e32, g1, g2, hsz, g3, if_true]
    rw [U.u8_at s i hlt]
    by_cases h : s[i] = 32
    · refine Ev.step (fun k => by rw [hstep, if_pos h]) ?_
      have := ih (i + 1) acc (by omega) (by omega)
      unfold without at this ⊢
      rw [List.filter_cons, if_neg (by rw [bne_iff_ne]; exact fun hn => hn h)]
      exact this
    · refine Ev.step (fun k => by rw [hstep, if_neg h]) ?_
      have hz : (acc ++ s.extract (i : Int).toNat (((i + 1 : Nat) : Int)).toNat).size ≤ i + 1 := by
        rw [size_of _ _ (U.append_data _ _), List.length_append, hone, U.len_data]; simp; omega
      have := ih (i + 1) (acc ++ s.extract (i : Int).toNat (((i + 1 : Nat) : Int)).toNat) (by omega) hz
      rw [U.append_data, hone] at this
      unfold without at this ⊢
      rw [List.filter_cons, if_pos (by rw [bne_iff_ne]; exact h)]
      simpa using this
theorem rnorm_ev (s : ByteArray) (hs : s.size ≤ hl) : Ev (fun k => wharfref04_Norm.f k s) (normB s) := by
  have := rnorm_loop s hs s.size 0 ⟨#[]⟩ (by omega) (by decide)
  rw [List.drop_zero, show (⟨#[]⟩ : ByteArray).data.toList = [] from rfl, List.nil_append, norm_swap] at this
  exact this

theorem ris_loop (s : ByteArray) (hs : s.size ≤ hl) : ∀ (d i : Nat) (n : Nat), i + d = s.size → n ≤ i →
    Ev (fun k => wharfref04_Is.l0 k s (n : Int) (i : Int)) ((s.data.toList.drop i).all okc && decide (n + (s.data.toList.drop i).count 64 ≤ 1)) := by
  have hhl : hl = 68719476736 := rfl
  intro d
  induction d with
  | zero =>
    intro i n hi hn
    refine Ev.step (fun k => ?_) (Ev.now _)
    simp only [wharfref04_Is.l0]
    rw [if_neg (by omega), List.drop_of_length_le (by rw [U.len_data]; omega)]
    congr 1
    by_cases h : n ≤ 1
    · rw [decide_eq_true (show (n : Int) ≤ 1 by omega)]; simp [h]
    · rw [decide_eq_false (show ¬ (n : Int) ≤ 1 by omega)]; simp [h]
  | succ d ih =>
    intro i n hi hn
    have hlt : i < s.size := by omega
    rw [U.u8_at s i hlt]
    obtain ⟨c, hc⟩ : ∃ c, c = s[i] := ⟨_, rfl⟩
    rw [← hc]
    have e64 : ((c.toNat : Int) = 64) = (c = 64) := i64 c
    have e32 : ((c.toNat : Int) = 32) = (c = 32) := i32 c
    have e46 : ((c.toNat : Int) = 46) = (c = 46) := i46 c
    have b64 : ((c.toNat : Int) != 64) = (c != 64) := by rw [Bool.eq_iff_iff, bne_iff_ne, bne_iff_ne, ne_eq, ne_eq, e64]
    have hj : ∀ (b : Bool) (r : Bool), (b = false → okc c = true) → (b = true → r = false) → (b = false → r = ((s.data.toList.drop (i + 1)).all okc && decide (n + (c :: s.data.toList.drop (i + 1)).count 64 ≤ 1))) → Ev (fun k => wharfref04_Is.j2 k s (n : Int) (i : Int) b) r := by
      intro b r _ h1 h2
      cases b with
      | true =>
        rw [h1 rfl]
        exact Ev.step (f := fun _ => some false) (fun k => by simp only [wharfref04_Is.j2, if_true]) (Ev.now _)
      | false =>
        rw [h2 rfl]
        have hstep : ∀ k, wharfref04_Is.j2 (k + 1) s (n : Int) (i : Int) false = if c = 64 then wharfref04_Is.l0 k s ((n + 1 : Nat) : Int) ((i + 1 : Nat) : Int) else wharfref04_Is.l0 k s (n : Int) ((i + 1 : Nat) : Int) := by
          intro k
          simp only [wharfref04_Is.j2]
          rw [if_neg (by decide), if_pos (by omega), if_pos (by omega), bt_get s i hlt _ rfl, ← hc, wsucc i (by omega), wsucc n (by omega)]
          simp only [e64]
        by_cases h64 : c = 64
        · refine Ev.step (fun k => by rw [hstep, if_pos h64]) ?_
          refine cast (congrArg _ ?_) (ih (i + 1) (n + 1) (by omega) (by omega))
          rw [List.count_cons, h64]
          simp only [beq_self_eq_true, if_true]
          congr 2
          rw [eq_iff_iff]; omega
        · refine Ev.step (fun k => by rw [hstep, if_neg h64]) ?_
          refine cast (congrArg _ ?_) (ih (i + 1) n (by omega) (by omega))
          rw [List.count_cons, if_neg (by rw [beq_iff_eq]; exact h64)]; rfl
    have hstep : ∀ k, wharfref04_Is.l0 (k + 1) s (n : Int) (i : Int) = if letterB c = true then wharfref04_Is.j2 k s (n : Int) (i : Int) false else if digitB c = true then wharfref04_Is.j2 k s (n : Int) (i : Int) false else if c = 32 then wharfref04_Is.j2 k s (n : Int) (i : Int) false else if c = 46 then wharfref04_Is.j2 k s (n : Int) (i : Int) false else wharfref04_Is.j2 k s (n : Int) (i : Int) (c != 64) := by
      intro k
      simp only [wharfref04_Is.l0]
      rw [if_pos (by omega), if_pos (by omega), bt_get s i hlt _ rfl, ← hc]
      simp only [rletter_eq, rdigit_eq, Option.bind_some, e32, e46, b64]
    have hok : okc c = true → Ev (fun k => wharfref04_Is.j2 k s (n : Int) (i : Int) false) ((c :: s.data.toList.drop (i + 1)).all okc && decide (n + (c :: s.data.toList.drop (i + 1)).count 64 ≤ 1)) := by
      intro ho
      exact hj false _ (fun _ => ho) (fun h => by cases h) (fun _ => by rw [List.all_cons, ho, Bool.true_and])
    cases hL : letterB c with
    | true =>
      refine Ev.step (fun k => by rw [hstep, hL, if_pos rfl]) (hok ?_)
      unfold okc; rw [hL]; simp
    | false =>
      cases hD : digitB c with
      | true =>
        refine Ev.step (fun k => by rw [hstep, hL, hD, if_neg (by decide), if_pos rfl]) (hok ?_)
        unfold okc; rw [hD]; simp
      | false =>
        by_cases h32 : c = 32
        · refine Ev.step (fun k => by rw [hstep, hL, hD, if_neg (by decide), if_neg (by decide), if_pos h32]) (hok (by rw [h32]; decide))
        · by_cases h46 : c = 46
          · refine Ev.step (fun k => by rw [hstep, hL, hD, if_neg (by decide), if_neg (by decide), if_neg h32, if_pos h46]) (hok (by rw [h46]; decide))
          · refine Ev.step (fun k => by rw [hstep, hL, hD, if_neg (by decide), if_neg (by decide), if_neg h32, if_neg h46]) ?_
            by_cases h64 : c = 64
            · have : (c != 64) = false := by rw [h64]; rfl
              rw [this]
              exact hok (by rw [h64]; decide)
            · have hne : (c != 64) = true := by rw [bne_iff_ne]; exact h64
              have hno : okc c = false := by rw [okc_or c h64 h32 h46, hL, hD]; rfl
              rw [hne]
              exact hj true _ (fun h => by cases h) (fun _ => by rw [List.all_cons, hno]; rfl) (fun h => by cases h)
theorem last_at (s : ByteArray) (h : 0 < s.size) : s.data.toList.getLast? = some (s[s.size - 1]'(by omega)) := by
  rw [getLast_at _ (by rw [U.len_data]; exact h)]
  simp only [U.len_data]; rfl
theorem ris_ev (s : ByteArray) (hs : s.size ≤ hl) : Ev (fun k => wharfref04_Is.f k s) (isName s.data.toList) := by
  have hhl : hl = 68719476736 := rfl
  have hj : ∀ b, Ev (fun k => wharfref04_Is.j0 k s b) (!b && (s.data.toList.all okc && decide (s.data.toList.count 64 ≤ 1))) := by
    intro b
    cases b with
    | true => exact Ev.step (f := fun _ => some false) (fun k => by simp only [wharfref04_Is.j0, if_true]) (Ev.now _)
    | false =>
      refine Ev.step (fun k => by simp only [wharfref04_Is.j0]; rw [if_neg (by decide)]) ?_
      have := ris_loop s hs s.size 0 0 (by omega) (by omega)
      rw [List.drop_zero, Nat.zero_add] at this
      exact this
  unfold wharfref04_Is.f
  refine Ev.bind (rnumber_ev s hs) ?_
  unfold isName
  cases numB s.data.toList with
  | true => exact Ev.now _
  | false =>
    simp only [Bool.false_eq_true, if_false, Bool.false_or]
    refine Ev.bind (rnorm_ev s hs) ?_
    rw [snB_eq]
    by_cases h3 : ((normB s).size : Int) < 3
    · simp only [if_pos h3]
      rw [decide_eq_false (show ¬ 3 ≤ (normB s).size by omega)]
      exact hj true
    · have hp := norm_pos s h3
      have h0 : 0 < s.size := by omega
      simp only [if_neg h3]
      rw [decide_eq_true (show 3 ≤ (normB s).size by omega)]
      by_cases h16 : (s.size : Int) > 16
      · simp only [if_pos h16]
        rw [decide_eq_false (show ¬ s.size ≤ 16 by omega)]
        exact hj true
      · have g1 := eq_true (show 0 < (s.size : Int) by omega)
        have g2 := eq_true (show (0 : Int) ≤ (s.size : Int) - 1 by omega)
        have g3 := eq_true (show (s.size : Int) - 1 < (s.size : Int) by omega)
        have gw : wrap64 ((s.size : Int) - 1) = (s.size : Int) - 1 := w64 _ (by omega) (by omega)
        have gb : bt s ((s.size : Int) - 1) = ((s[s.size - 1]'(by omega)).toNat : Int) := bt_get s (s.size - 1) (by omega) _ (by omega)
        have gb0 : bt s 0 = ((s[0].toNat : Nat) : Int) := bt_get s 0 h0 0 rfl
        simp only [if_neg h16, g1, if_true, gb0, rletter_eq, Option.bind_some, gw, g2, g3, gb]
        rw [decide_eq_true (show s.size ≤ 16 by omega), head_at s h0]
        unfold lastok
        rw [last_at s h0]
        obtain ⟨z, hz⟩ : ∃ z, z = s[s.size - 1]'(by omega) := ⟨_, rfl⟩
        rw [← hz]
        have e32 : ((z.toNat : Int) = 32) = (z = 32) := i32 z
        have b64 : ((z.toNat : Int) == 64) = (z == 64) := by rw [Bool.eq_iff_iff, beq_iff_eq, beq_iff_eq]; rw [i64 z]
        simp only [e32, b64]
        cases hL : letterB s[0] with
        | false =>
          simp only [Bool.false_eq_true, if_false]
          exact hj true
        | true =>
          simp only [if_true]
          by_cases h32 : z = 32
          · simp only [if_pos h32]
            refine cast (congrArg _ ?_) (hj true)
            rw [h32]; simp
          · simp only [if_neg h32]
            refine cast (congrArg _ ?_) (hj (z == 64))
            have a1 : (some z != some 32) = true := by rw [bne_iff_ne]; intro h; exact h32 (Option.some.inj h)
            have a2 : (some z != some 64) = !(z == 64) := by rw [bne]; rfl
            rw [a1, a2]
            generalize s.data.toList.all okc = x1
            generalize decide (s.data.toList.count 64 ≤ 1) = x2
            generalize (z == 64) = x3
            cases x1 <;> cases x2 <;> cases x3 <;> rfl

/-! ### addresses -/
def bad4 : ByteArray × ByteArray × ByteArray × Int := (⟨#[]⟩, ⟨#[]⟩, ⟨#[]⟩, 40)
/-- Has a name an address? -/
def hasJ (s d : ByteArray) : Bool := isName s.data.toList && JidP.ok ⟨escG (norm s.data.toList), d.data.toList, []⟩
def toV (s d : ByteArray) : ByteArray × ByteArray × ByteArray × Int := if hasJ s d then (⟨(escG (norm s.data.toList)).toArray⟩, d, ⟨#[]⟩, 0) else bad4
def fromB (n d dom : ByteArray) : Bool := d.data.toList == dom.data.toList && (isName (un n.data.toList) && norm (un n.data.toList) == un n.data.toList)
def fromV (n d dom : ByteArray) : ByteArray × Int := if fromB n d dom then (⟨(un n.data.toList).toArray⟩, 0) else (⟨#[]⟩, 40)
end Go.Proofs.YtpjkbamkaicoiaaDoor.HanQ
end
