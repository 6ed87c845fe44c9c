/- wharfref03.Parse, as printed: what it comes to; and as a function without rounds. -/
import Derived.Test.YthifpbaebbodoaaDoorRb
set_option linter.unusedVariables false
set_option linter.unusedSimpArgs false
namespace Go.Proofs.YthifpbaebbodoaaDoor.RaP
open Go.RowKit GlyP Strs JidP Go.Proofs.YthifpbaebbodoaaDoorW.PrintWords Go.Proofs.YthifpbaebbodoaaDoorW.PrintLast Go.Proofs.YthifpbaebbodoaaDoorW.PrintMore Rb F

theorem cut_yes (s : ByteArray) (c : UInt8) (h : s.data.toList.contains c = true) :
    0 ≤ place c s.data.toList ∧ place c s.data.toList + 1 ≤ (s.size : Int) ∧ (s.extract 0 (place c s.data.toList).toNat).data.toList = foreB c s.data.toList ∧ (s.extract (place c s.data.toList + 1).toNat s.size).data.toList = aftB c s.data.toList := by
  unfold place
  rw [if_pos h]
  rcases parts c s.data.toList with ⟨_, _, h3⟩ | ⟨h1, _⟩
  · have hl := congrArg List.length h3
    rw [U.len_data, List.length_append, List.length_cons] at hl
    refine ⟨by omega, by omega, ?_, ?_⟩
    · rw [U.take_data]
      have : ∀ A B L : List UInt8, L = A ++ c :: B → L.take (A.length : Int).toNat = A := fun A B L h => by rw [h]; simp
      exact this _ _ _ h3
    · rw [show ((((foreB c s.data.toList).length : Int) + 1).toNat) = (foreB c s.data.toList).length + 1 by omega, U.drop_data]
      have : ∀ A B L : List UInt8, L = A ++ c :: B → L.drop (A.length + 1) = B := fun A B L h => by rw [h, ← List.drop_drop]; simp
      exact this _ _ _ h3
  · rw [h1] at h; cases h
theorem cut_no (s : ByteArray) (c : UInt8) (h : s.data.toList.contains c = false) : place c s.data.toList = -1 ∧ foreB c s.data.toList = s.data.toList ∧ aftB c s.data.toList = [] := by
  unfold place
  rw [h]
  rcases parts c s.data.toList with ⟨h1, _⟩ | ⟨_, _, h3⟩
  · rw [h1] at h; cases h
  · exact ⟨rfl, h3⟩
theorem empty_eq (s : ByteArray) : (s.toList == ([] : List UInt8)) = s.data.toList.isEmpty := by
  rw [Lib.toList_data]; cases s.data.toList <;> rfl
theorem extract_le (s : ByteArray) (i j : Nat) : (s.extract i j).size ≤ s.size := by
  rw [← U.len_data, ← U.len_data, Lib.extract_data]; simp; omega
def fin3 (flag : Bool) (j : J) : ByteArray × ByteArray × ByteArray × Int := pOut (if flag || !(ok (norm j)) then none else some (norm j))
theorem j3_ev (x0 n d r : ByteArray) (flag : Bool) (h0 : x0.size ≤ jl) (h1 : n.size ≤ jl) (h2 : r.size ≤ jl) : Ev (fun k => wharfref03_Parse.j3 k x0 flag n d r) (fin3 flag ⟨n.data.toList, x0.data.toList, r.data.toList⟩) := by
  refine Ev.step (fun k => ?_) (Ev.now _)
  simp only [wharfref03_Parse.j3]
  cases flag with
  | true => rfl
  | false =>
    rw [if_neg (by decide)]
    unfold F.wharfref03_Norm.f
    rw [if_pos ⟨h1, h0, h2⟩]
    simp only [Option.bind_some]
    unfold F.wharfref03_Is.f
    have z1 : (⟨(n.data.toList.map Gly.low).toArray⟩ : ByteArray).size ≤ jl := by rw [← U.len_data]; simpa [U.len_data] using h1
    have z2 : (⟨(trimPoint (x0.data.toList.map Gly.low)).toArray⟩ : ByteArray).size ≤ jl := by
      rw [← U.len_data]
      have := trimLe (x0.data.toList.map Gly.low)
      rw [List.length_map, U.len_data] at this
      exact Nat.le_trans this h0
    rw [if_pos ⟨z1, z2, h2⟩]
    simp only [Option.bind_some]
    have e : Jid.jOf (⟨(n.data.toList.map Gly.low).toArray⟩ : ByteArray) (⟨(trimPoint (x0.data.toList.map Gly.low)).toArray⟩ : ByteArray) r = norm ⟨n.data.toList, x0.data.toList, r.data.toList⟩ := rfl
    rw [e]
    unfold fin3
    cases ok (norm ⟨n.data.toList, x0.data.toList, r.data.toList⟩) with
    | true => simp [pOut, norm]
    | false => simp [pOut]
theorem j2_ev (x0 n d r : ByteArray) (x5 : Int) (h0 : x0.size ≤ jl) (h1 : n.size ≤ jl) (h2 : r.size ≤ jl) (f : Bool) (hf : f = (decide (0 ≤ x5) && n.data.toList.isEmpty)) :
    Ev (fun k => wharfref03_Parse.j2 k x0 x5 n d r) (fin3 f ⟨n.data.toList, x0.data.toList, r.data.toList⟩) := by
  subst hf
  by_cases h : x5 ≥ 0
  · refine Ev.step (fun k => by simp only [wharfref03_Parse.j2]; rw [if_pos h]) ?_
    rw [decide_eq_true h, Bool.true_and, ← empty_eq]
    exact j3_ev x0 n d r _ h0 h1 h2
  · refine Ev.step (fun k => by simp only [wharfref03_Parse.j2]; rw [if_neg h]) ?_
    rw [decide_eq_false h, Bool.false_and]
    exact j3_ev x0 n d r _ h0 h1 h2
theorem nil_data : (⟨#[]⟩ : ByteArray).data.toList = [] := rfl
def mid (l r : List UInt8) : ByteArray × ByteArray × ByteArray × Int :=
  fin3 (l.contains 64 && (foreB 64 l).isEmpty) ⟨if l.contains 64 then foreB 64 l else [], if l.contains 64 then aftB 64 l else l, r⟩
theorem j1_ev (x0 d r : ByteArray) (flag : Bool) (h0 : x0.size ≤ jl) (h2 : r.size ≤ jl) :
    Ev (fun k => wharfref03_Parse.j1 k x0 flag ⟨#[]⟩ d r) (if flag then pOut none else mid x0.data.toList r.data.toList) := by
  have hjl : jl = 68719476736 := rfl
  cases flag with
  | true => exact Ev.step (f := fun _ => some (pOut none)) (fun k => by simp only [wharfref03_Parse.j1, if_true]; rfl) (Ev.now _)
  | false =>
    rw [if_neg (by decide)]
    refine Ev.step (fun k => by simp only [wharfref03_Parse.j1]; rw [if_neg (by decide)]) ?_
    unfold F.wharfref03_first.f
    simp only [if_pos (show x0.size ≤ jl ∧ (0 : Int) ≤ 64 ∧ (64 : Int) < 256 from ⟨h0, by decide, by decide⟩), Option.bind_some]
    rw [show (UInt8.ofNat (64 : Int).toNat) = 64 from rfl]
    unfold mid
    cases hc : x0.data.toList.contains 64 with
    | true =>
      obtain ⟨c1, c2, c3, c4⟩ := cut_yes x0 64 hc
      have g1 := eq_true c1
      have g2 := eq_true (show place 64 x0.data.toList ≤ (x0.size : Int) by omega)
      have g3 : wrap64 (place 64 x0.data.toList + 1) = place 64 x0.data.toList + 1 := w64 _ (by omega) (by omega)
      have g4 := eq_true (show (0 : Int) ≤ place 64 x0.data.toList + 1 by omega)
      have g5 := eq_true c2
      simp only [ge_iff_le, g1, g2, g3, g4, g5, if_true]
      have := j2_ev (x0.extract (place 64 x0.data.toList + 1).toNat x0.size) (x0.extract 0 (place 64 x0.data.toList).toNat) d r (place 64 x0.data.toList) (Nat.le_trans (extract_le _ _ _) h0) (Nat.le_trans (extract_le _ _ _) h0) h2 _ rfl
      rw [c3, c4, decide_eq_true c1] at this
      exact this
    | false =>
      obtain ⟨c1, c2, c3⟩ := cut_no x0 64 hc
      rw [c1]
      simp only [ge_iff_le, if_neg (show ¬ (0 : Int) ≤ -1 by decide)]
      have := j2_ev x0 ⟨#[]⟩ d r (-1) h0 (by decide) h2 _ rfl
      exact this
theorem parse_ev (s : ByteArray) (hs : s.size ≤ jl) : Ev (fun k => Rb.wharfref03_Parse.f k s) (pOut (parse s.data.toList)) := by
  have hjl : jl = 68719476736 := rfl
  have hp : pOut (parse s.data.toList) = if s.data.toList.contains 47 && (aftB 47 s.data.toList).isEmpty then pOut none else mid (foreB 47 s.data.toList) (aftB 47 s.data.toList) := by
    unfold parse mid fin3
    simp only
    cases (s.data.toList.contains 47 && (aftB 47 s.data.toList).isEmpty) with
    | true => rfl
    | false =>
      simp only [Bool.false_or]
      rfl
  rw [hp]
  unfold Rb.wharfref03_Parse.f F.wharfref03_first.f
  simp only [if_pos (show s.size ≤ jl ∧ (0 : Int) ≤ 47 ∧ (47 : Int) < 256 from ⟨hs, by decide, by decide⟩), Option.bind_some]
  rw [show (UInt8.ofNat (47 : Int).toNat) = 47 from rfl]
  have j0_ev : ∀ (x0 d r : ByteArray) (x5 : Int) (h0 : x0.size ≤ jl) (h2 : r.size ≤ jl), Ev (fun k => wharfref03_Parse.j0 k x0 x5 ⟨#[]⟩ d r) (if decide (0 ≤ x5) && r.data.toList.isEmpty then pOut none else mid x0.data.toList r.data.toList) := by
    intro x0 d r x5 h0 h2
    by_cases h : x5 ≥ 0
    · refine Ev.step (fun k => by simp only [wharfref03_Parse.j0]; rw [if_pos h]) ?_
      rw [decide_eq_true h, Bool.true_and, ← empty_eq]
      exact j1_ev x0 d r _ h0 h2
    · refine Ev.step (fun k => by simp only [wharfref03_Parse.j0]; rw [if_neg h]) ?_
      rw [decide_eq_false h, Bool.false_and]
      exact j1_ev x0 d r _ h0 h2
  cases hc : s.data.toList.contains 47 with
  | true =>
    obtain ⟨c1, c2, c3, c4⟩ := cut_yes s 47 hc
    have g1 := eq_true c1
    have g2 := eq_true (show place 47 s.data.toList ≤ (s.size : Int) by omega)
    have g3 : wrap64 (place 47 s.data.toList + 1) = place 47 s.data.toList + 1 := w64 _ (by omega) (by omega)
    have g4 := eq_true (show (0 : Int) ≤ place 47 s.data.toList + 1 by omega)
    have g5 := eq_true c2
    simp only [ge_iff_le, g1, g2, g3, g4, g5, if_true]
    have := j0_ev (s.extract 0 (place 47 s.data.toList).toNat) ⟨#[]⟩ (s.extract (place 47 s.data.toList + 1).toNat s.size) (place 47 s.data.toList) (Nat.le_trans (extract_le _ _ _) hs) (Nat.le_trans (extract_le _ _ _) hs)
    rw [c3, c4, decide_eq_true c1] at this
    exact this
  | false =>
    obtain ⟨c1, c2, c3⟩ := cut_no s 47 hc
    rw [c1, c2, c3]
    simp only [ge_iff_le, if_neg (show ¬ (0 : Int) ≤ -1 by decide)]
    exact j0_ev s ⟨#[]⟩ ⟨#[]⟩ (-1) hs (by decide)
end Go.Proofs.YthifpbaebbodoaaDoor.RaP
namespace Go.Proofs.YthifpbaebbodoaaDoor.F
open Go.RowKit GlyP JidP
def wharfref03_Parse.f (s : ByteArray) : Option (ByteArray × ByteArray × ByteArray × Int) := if s.size ≤ jl then some (pOut (parse s.data.toList)) else none
theorem wharfref03_Parse.calls (s r1 r2 r3 : ByteArray) (r4 : Int) (w : World) (h : wharfref03_Parse.f s = some (r1, r2, r3, r4)) :
    Calls Tryd.prog 11 #[.string s] w fun e w' => e = .returned (.tuple #[.agg #[.string r1, .string r2, .string r3], .int .i64 r4]) ∧ Below w.heap.size w w' := by
  unfold wharfref03_Parse.f at h
  by_cases hc : s.size ≤ jl
  · rw [if_pos hc] at h
    obtain ⟨k, hk⟩ := (RaP.parse_ev s hc).rounds
    rw [Option.some.inj h] at hk
    exact Rb.wharfref03_Parse.calls k s r1 r2 r3 r4 w hk
  · rw [if_neg hc] at h; cases h
end Go.Proofs.YthifpbaebbodoaaDoor.F
