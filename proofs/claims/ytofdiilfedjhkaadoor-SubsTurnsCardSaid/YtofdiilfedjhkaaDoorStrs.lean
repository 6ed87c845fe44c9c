/- strings.Cut and strings.Split at a separator of one byte, strings.TrimSuffix, strings.IndexByte at this translation: for every text; nothing of the library's variables is read. -/
import Derived.Test.YtofdiilfedjhkaaDoorUtil
import Derived.Test.YtofdiilfedjhkaaDoorShelf
import Derived.Deep.QuietTactic
import Derived.BigQuiet
import Derived.LoopTactic
import Derived.Outline
import Derived.OwnWalk
import Derived.Laws.OwnMore
import Derived.Lib.Bytealg
set_option linter.unusedVariables false
set_option linter.unusedSimpArgs false
namespace Go.Proofs.YtofdiilfedjhkaaDoor.Strs
open Go.RowKit

/-- What stands ahead of the first c, and behind it. -/
def foreB (c : UInt8) (l : List UInt8) : List UInt8 := l.takeWhile (· != c)
def aftB (c : UInt8) (l : List UInt8) : List UInt8 := (l.dropWhile (· != c)).tail
theorem parts : ∀ (c : UInt8) (l : List UInt8), (l.contains c = true ∧ Lib.indexByte l c = ((foreB c l).length : Int) ∧ l = foreB c l ++ c :: aftB c l) ∨ (l.contains c = false ∧ Lib.indexByte l c = -1 ∧ foreB c l = l ∧ aftB c l = [])
  | c, [] => .inr ⟨rfl, rfl, rfl, rfl⟩
  | c, x :: l => by
    by_cases h : x = c
    · subst h
      left
      refine ⟨by simp, by simp [Lib.indexByte, foreB], by simp [foreB, aftB]⟩
    · have hne : (x != c) = true := by rw [bne_iff_ne]; exact h
      have hne2 : (x == c) = false := by rw [beq_eq_false_iff_ne]; exact h
      have ha : foreB c (x :: l) = x :: foreB c l := by simp [foreB, hne]
      have hb : aftB c (x :: l) = aftB c l := by simp [aftB, hne]
      have hcx : (x :: l).contains c = l.contains c := by simp [List.contains_cons, Ne.symm h]
      have hi : Lib.indexByte (x :: l) c = if Lib.indexByte l c == -1 then -1 else Lib.indexByte l c + 1 := by simp [Lib.indexByte, hne2]
      rcases parts c l with ⟨h1, h2, h3⟩ | ⟨h1, h2, h3, h4⟩
      · left
        refine ⟨by rw [hcx, h1], ?_, by rw [ha, hb, List.cons_append, ← h3]⟩
        rw [hi, ha, h2, if_neg (by rw [beq_iff_eq]; omega), List.length_cons]; omega
      · right
        exact ⟨by rw [hcx, h1], by rw [hi, h2]; rfl, by rw [ha, h3], by rw [hb, h4]⟩
theorem foreB_le (c : UInt8) (l : List UInt8) : (foreB c l).length ≤ l.length := by
  rcases parts c l with ⟨_, _, h⟩ | ⟨_, _, h, _⟩
  · have := congrArg List.length h
    rw [List.length_append, List.length_cons] at this; omega
  · rw [h]; omega

theorem cut_at (c : UInt8) (A B L : List UInt8) (h : L = A ++ c :: B) : L.take A.length = A ∧ L.drop (A.length + 1) = B := by
  subst h
  refine ⟨by simp, ?_⟩
  rw [List.drop_append]; simp
/-- What Cut gives. -/
def cutV (c : UInt8) (s : ByteArray) : Value := .tuple #[.string ⟨(foreB c s.data.toList).toArray⟩, .string ⟨(aftB c s.data.toList).toArray⟩, .bool (s.data.toList.contains c)]

/-- The pieces between the bytes c. -/
def pieces (c : UInt8) : List UInt8 → List (List UInt8)
  | [] => [[]]
  | x :: l => if x = c then [] :: pieces c l else match pieces c l with | p :: ps => (x :: p) :: ps | [] => [[x]]
theorem pieces_ne (c : UInt8) : ∀ l, pieces c l ≠ []
  | [] => by simp [pieces]
  | x :: l => by
    simp only [pieces]
    split
    · simp
    · split <;> simp
theorem pieces_len (c : UInt8) : ∀ l, (pieces c l).length = Lib.countByte l c + 1
  | [] => rfl
  | x :: l => by
    have ih := pieces_len c l
    simp only [pieces, Lib.countByte, List.count_cons]
    by_cases h : x = c
    · rw [if_pos h, List.length_cons, ih, Lib.countByte]; simp [h]
    · rw [if_neg h]
      have hx : (x == c) = false := by rw [beq_eq_false_iff_ne]; exact h
      rw [hx]
      split
      · rename_i p ps hp
        rw [hp] at ih
        simpa [Lib.countByte] using ih
      · rename_i hp
        exact absurd hp (pieces_ne c l)
theorem pieces_no (c : UInt8) : ∀ l, l.contains c = false → pieces c l = [l]
  | [], _ => rfl
  | x :: l, h => by
    simp only [List.contains_cons, Bool.or_eq_false_iff] at h
    simp only [pieces]
    rw [if_neg (by intro e; rw [e] at h; simp at h), pieces_no c l h.2]
theorem pieces_yes (c : UInt8) : ∀ A B, A.contains c = false → pieces c (A ++ c :: B) = A :: pieces c B
  | [], B, _ => by simp [pieces]
  | x :: A, B, h => by
    simp only [List.contains_cons, Bool.or_eq_false_iff] at h
    simp only [List.cons_append, pieces]
    rw [if_neg (by intro e; rw [e] at h; simp at h), pieces_yes c A B h.2]
theorem foreB_no (c : UInt8) (l : List UInt8) : (foreB c l).contains c = false := by
  induction l with
  | nil => rfl
  | cons x l ih =>
    by_cases h : x = c
    · subst h; simp [foreB]
    · have hne : (x != c) = true := by rw [bne_iff_ne]; exact h
      have ha : foreB c (x :: l) = x :: foreB c l := by simp [foreB, hne]
      rw [ha, List.contains_cons, ih]
      simp; exact fun e => h e.symm

/-- A row of strings of the call's own. -/
def StrsAt (g : Nat) (ps : List (List UInt8)) (w : World) : Prop := ∀ j (h : j < ps.length), w.cell? ⟨g, j, none⟩ = some (.string ⟨(ps[j]).toArray⟩)
def str (p : List UInt8) : Value := .string ⟨p.toArray⟩

theorem info_str : (Tryd.prog.info? 9).map (fun i => (i.zero, i.size, i.bytes)) = some (some (.string ⟨#[]⟩), 1, 16) := by kernel_rfl

end Go.Proofs.YtofdiilfedjhkaaDoor.Strs
