/- Contracts of functions of this translation, and what they come to; what is not used is left out. -/
import Derived.Deep.QuietTactic
import Derived.BigQuiet
import Derived.LoopTactic
import Derived.Outline
import Derived.OwnWalk
import Derived.Laws.OwnMore
import Derived.Lib.Bytealg
import Derived.Test.YtofdiilfedjhkaaDoorKShelf
import Derived.Test.YtofdiilfedjhkaaDoorKUtil

section
/- strings.Cut and strings.Split at a separator of one byte, strings.TrimSuffix, strings.IndexByte at this translation: for every text; nothing of the library's variables is read. -/
set_option linter.unusedVariables false
set_option linter.unusedSimpArgs false
namespace Go.Proofs.YtofdiilfedjhkaaDoor.Strs
open Go.RowKit

/-- What stands ahead of the first c, and behind it. -/
def foreB (c : UInt8) (l : List UInt8) : List UInt8 := l.takeWhile (· != c)
def aftB (c : UInt8) (l : List UInt8) : List UInt8 := (l.dropWhile (· != c)).tail
theorem parts : ∀ (c : UInt8) (l : List UInt8), (l.contains c = true ∧ Lib.indexByte l c = ((foreB c l).length : Int) ∧ l = foreB c l ++ c :: aftB c l) ∨ (l.contains c = false ∧ Lib.indexByte l c = -1 ∧ foreB c l = l ∧ aftB c l = [])
  | c, [] => .inr ⟨rfl, rfl, rfl, rfl⟩
  | c, x :: l => by
    by_cases h : x = c
    · subst h
      left
      refine ⟨by simp, by simp [Lib.indexByte, foreB], by simp [foreB, aftB]⟩
    · have hne : (x != c) = true := by rw [bne_iff_ne]; exact h
      have hne2 : (x == c) = false := by rw [beq_eq_false_iff_ne]; exact h
      have ha : foreB c (x :: l) = x :: foreB c l := by simp [foreB, hne]
      have hb : aftB c (x :: l) = aftB c l := by simp [aftB, hne]
      have hcx : (x :: l).contains c = l.contains c := by simp [List.contains_cons, Ne.symm h]
      have hi : Lib.indexByte (x :: l) c = if Lib.indexByte l c == -1 then -1 else Lib.indexByte l c + 1 := by simp [Lib.indexByte, hne2]
      rcases parts c l with ⟨h1, h2, h3⟩ | ⟨h1, h2, h3, h4⟩
      · left
        refine ⟨by rw [hcx, h1], ?_, by rw [ha, hb, List.cons_append, ← h3]⟩
        rw [hi, ha, h2, if_neg (by rw [beq_iff_eq]; omega), List.length_cons]; omega
      · right
        exact ⟨by rw [hcx, h1], by rw [hi, h2]; rfl, by rw [ha, h3], by rw [hb, h4]⟩
end Go.Proofs.YtofdiilfedjhkaaDoor.Strs
end
