/- Contracts of functions of this translation, and what they come to; what is not used is left out. -/
import Derived.Test.YtpjkbamkaicoiaaDoorPRefJ
import Derived.Test.YtpjkbamkaicoiaaDoorPRefF
import Derived.Test.YtpjkbamkaicoiaaDoorPGlyA
import Derived.Test.YtpjkbamkaicoiaaDoorPGlyP
import Derived.Test.YtpjkbamkaicoiaaDoorPUtil
import Derived.Test.YtpjkbamkaicoiaaDoorPJidP
import Derived.Test.YtpjkbamkaicoiaaDoorPStrs
import Derived.Test.YtpjkbamkaicoiaaDoorPShelf
import Derived.Test.YtpjkbamkaicoiaaDoorPRaP
import Derived.Test.YtpjkbamkaicoiaaDoorPRa2
import Derived.Test.YtpjkbamkaicoiaaDoorPRa1
import Derived.Test.YtpjkbamkaicoiaaDoorPRa0
import Derived.Test.YtpjkbamkaicoiaaDoorPg0

section
/- wharfref01.Signs, wharfref03.text, in, first, Norm, as printed: what they come to. Plain. -/
set_option linter.unusedVariables false
set_option linter.unusedSimpArgs false
namespace Go.Proofs.YtpjkbamkaicoiaaDoor.RaP
open Go.RowKit GlyP Go.Proofs.YtpjkbamkaicoiaaDoorW.PrintWords Go.Proofs.YtpjkbamkaicoiaaDoorW.PrintLast Go.Proofs.YtpjkbamkaicoiaaDoorW.PrintMore Ra JidP

theorem plain_eq (c : Nat) : wharfref01_Plain.f (c : Int) = some (plain c) := by
  unfold wharfref01_Plain.f plain
  by_cases h9 : c = 9
  · subst h9; rfl
  · rw [if_neg (by omega)]
    by_cases h10 : c = 10
    · subst h10; rfl
    · rw [if_neg (by omega)]
      by_cases h13 : c = 13
      · subst h13; rfl
      · rw [if_neg (by omega)]
        have e1 : (c == 9) = false := by simpa using h9
        have e2 : (c == 10) = false := by simpa using h10
        have e3 : (c == 13) = false := by simpa using h13
        rw [e1, e2, e3]
        simp only [Bool.false_or]
        by_cases h32 : 32 ≤ c
        · rw [if_pos (by omega), decide_eq_true h32]
          by_cases h4 : c = 65534
          · subst h4; rfl
          · rw [if_neg (by omega)]
            have e4 : (c != 65534) = true := by simpa using h4
            have e5 : ((c : Int) != 65535) = (c != 65535) := by
              rw [Bool.eq_iff_iff]; simp only [bne_iff_ne]; omega
            rw [e4, e5]; rfl
        · rw [if_neg (by omega), decide_eq_false h32]; rfl

theorem drop_extract (s : ByteArray) (n : Nat) (j : Int) (h : j = (n : Int)) : (s.extract j.toNat s.size).data.toList = s.data.toList.drop n := by
  subst h; rw [U.drop_data]; simp
theorem size_drop (s : ByteArray) (n : Nat) (j : Int) (h : j = (n : Int)) : (s.extract j.toNat s.size).size = s.size - n := by
  rw [← U.len_data, drop_extract s n j h, List.length_drop, U.len_data]

def resS (acc : List Int) (o : Option (List Nat)) : List Int × Bool := match o with | none => ([], false) | some cs => (acc ++ cs.map (fun c : Nat => (c : Int)), true)
theorem signs_ev : ∀ (m : Nat) (s : ByteArray) (acc : List Int), s.size ≤ m → acc.length + s.size < 17592186044416 →
    Ev (fun k => wharfref01_Signs.l0 k s acc) (resS acc (signs s.data.toList.length s.data.toList)) := by
  intro m
  induction m with
  | zero =>
    intro s acc hm ha
    have e : s.data.toList = [] := by rw [← Lib.toList_data]; exact U.toList_nil s (by omega)
    refine Ev.step (fun k => ?_) (Ev.now _)
    simp only [wharfref01_Signs.l0]
    rw [if_pos (U.toList_nil s (by omega)), e]
    simp [signs, resS]
  | succ m ih =>
    intro s acc hm ha
    by_cases hz : s.size = 0
    · have e : s.data.toList = [] := by rw [← Lib.toList_data]; exact U.toList_nil s hz
      refine Ev.step (fun k => ?_) (Ev.now _)
      simp only [wharfref01_Signs.l0]
      rw [if_pos (U.toList_nil s hz), e]
      simp [signs, resS]
    · have hl : s.data.toList.length = s.size := U.len_data s
      have hne : ¬ s.toList = [] := fun h => by
        have := congrArg List.length h
        rw [Lib.toList_data, hl] at this; exact hz (this.trans rfl)
      obtain ⟨a, l, hal⟩ : ∃ a l, s.data.toList = a :: l := by
        cases h : s.data.toList with
        | nil => rw [h] at hl; simp at hl; omega
        | cons a l => exact ⟨a, l, rfl⟩
      refine Ev.step (fun k => by simp only [wharfref01_Signs.l0]; rw [if_neg hne]) ?_
      refine Ev.bind (first_ev s (by omega)) ?_
      have hs : signs s.data.toList.length s.data.toList = match first s.data.toList with | none => none | some (c, n) => if plain c then (signs (s.data.toList.drop n).length (s.data.toList.drop n)).map (c :: ·) else none := by
        rw [hal, List.length_cons]
        simp only [signs]
        cases ho : first (a :: l) with
        | none => rfl
        | some x =>
          obtain ⟨c, n⟩ := x
          have hfs := first_some _ _ _ ho
          simp only
          rw [signs_fuel l.length _ _ (by rw [List.length_drop, List.length_cons]; omega) (Nat.le_refl _)]
      rw [hs]
      cases ho : first s.data.toList with
      | none =>
        simp only [res3, resS]
        exact Ev.now _
      | some x =>
        obtain ⟨c, n⟩ := x
        have hfs := first_some _ _ _ ho
        rw [hl] at hfs
        simp only [res3, if_true]
        rw [plain_eq]
        simp only [Option.bind_some]
        cases hp : plain c with
        | false =>
          simp only [Bool.false_eq_true, if_false, resS]
          exact Ev.now _
        | true =>
          simp only [if_true]
          have g1 := eq_true (show acc.length < 17592186044416 by omega)
          have g2 := eq_true (show 0 ≤ (n : Int) by omega)
          have g3 := eq_true (show (n : Int) ≤ (s.size : Int) by omega)
          simp only [g1, g2, g3, if_true]
          have hsz := size_drop s n (n : Int) rfl
          have h := ih (s.extract (n : Int).toNat s.size) (acc ++ [(c : Int)]) (by omega) (by rw [List.length_append, hsz]; simp; omega)
          rw [drop_extract s n _ rfl] at h
          refine cast (congrArg _ ?_) h
          cases signs (s.data.toList.drop n).length (s.data.toList.drop n) with
          | none => rfl
          | some cs => simp [resS]

theorem bt_get (s : ByteArray) (i : Nat) (h : i < s.size) (j : Int) (hj : j = i) : bt s j = ((s[i].toNat : Nat) : Int) := by
  subst hj; unfold bt; rw [dif_pos (by simpa using h)]; rfl
/-- The place of a byte; -1: it is not there. -/
def place (c : UInt8) (l : List UInt8) : Int := if l.contains c then ((Strs.foreB c l).length : Int) else -1
theorem getLast_at (l : List UInt8) (h : 0 < l.length) : l.getLast? = some (l[l.length - 1]'(by omega)) := by
  rw [List.getLast?_eq_getElem?, List.getElem?_eq_getElem (by omega)]
end Go.Proofs.YtpjkbamkaicoiaaDoor.RaP
end
