/- Addresses: what is put is parsed. Plain lists: no program in sight. -/
import Derived.Test.YthifpbaebbodoaaDoorJidP
set_option linter.unusedVariables false
set_option linter.unusedSimpArgs false
namespace Go.Proofs.YthifpbaebbodoaaDoor.JidP
open GlyP Gly Strs

theorem ok_parts (j : J) : ok j = true ↔ norm j = j ∧ isPart j.n = true ∧ isPart j.d = true ∧ isPart j.r = true ∧ isNode j.n = true ∧ (pieces 46 j.d).all isLabel = true := by
  unfold ok
  simp only [Bool.and_eq_true, beq_iff_eq]
theorem in_pieces (s : UInt8) : ∀ (l : List UInt8) (c : UInt8), c ∈ l → c = s ∨ ∃ p ∈ pieces s l, c ∈ p
  | [], c, h => by cases h
  | x :: l, c, h => by
    simp only [pieces]
    by_cases hx : x = s
    · rw [if_pos hx]
      rcases List.mem_cons.1 h with rfl | h
      · exact .inl hx
      · rcases in_pieces s l c h with h | ⟨p, hp, hc⟩
        · exact .inl h
        · exact .inr ⟨p, List.mem_cons_of_mem _ hp, hc⟩
    · rw [if_neg hx]
      split
      · rename_i q qs hq
        rcases List.mem_cons.1 h with rfl | h
        · exact .inr ⟨_, List.mem_cons_self, List.mem_cons_self⟩
        · rcases in_pieces s l c h with h | ⟨p, hp, hc⟩
          · exact .inl h
          · rw [hq] at hp
            rcases List.mem_cons.1 hp with rfl | hp
            · exact .inr ⟨_, List.mem_cons_self, List.mem_cons_of_mem _ hc⟩
            · exact .inr ⟨p, List.mem_cons_of_mem _ hp, hc⟩
      · rename_i hq
        exact absurd hq (pieces_ne s l)
theorem dom_bytes {d : List UInt8} (h : (pieces 46 d).all isLabel = true) : ∀ c ∈ d, c = 46 ∨ labelB c = true := by
  intro c hc
  rcases in_pieces 46 d c hc with h1 | ⟨p, hp, hcp⟩
  · exact .inl h1
  · have h2 := List.all_eq_true.1 h p hp
    unfold isLabel at h2
    rw [Bool.and_eq_true] at h2
    exact .inr (List.all_eq_true.1 h2.1 c hcp)
theorem no_byte {l : List UInt8} {b : UInt8} (h : b ∉ l) : l.contains b = false := by
  rw [Bool.eq_false_iff]; intro hc; exact h (by simpa using hc)
theorem dom_no {d : List UInt8} (h : (pieces 46 d).all isLabel = true) : d.contains 47 = false ∧ d.contains 64 = false := by
  constructor
  · refine no_byte fun hc => ?_
    rcases dom_bytes h 47 hc with h1 | h1 <;> revert h1 <;> decide
  · refine no_byte fun hc => ?_
    rcases dom_bytes h 64 hc with h1 | h1 <;> revert h1 <;> decide
theorem node_no {n : List UInt8} (h : isNode n = true) : n.contains 47 = false ∧ n.contains 64 = false := by
  unfold isNode at h
  constructor
  · refine no_byte fun hc => ?_
    have := List.all_eq_true.1 h 47 hc
    revert this; decide
  · refine no_byte fun hc => ?_
    have := List.all_eq_true.1 h 64 hc
    revert this; decide

theorem cut_no (c : UInt8) (l : List UInt8) (h : l.contains c = false) : foreB c l = l ∧ aftB c l = [] := by
  rcases parts c l with ⟨h1, _⟩ | ⟨_, _, h2, h3⟩
  · rw [h] at h1; cases h1
  · exact ⟨h2, h3⟩
theorem cut_yes (c : UInt8) : ∀ (A B : List UInt8), A.contains c = false → foreB c (A ++ c :: B) = A ∧ aftB c (A ++ c :: B) = B ∧ (A ++ c :: B).contains c = true
  | [], B, _ => by simp [foreB, aftB]
  | x :: A, B, h => by
    simp only [List.contains_cons, Bool.or_eq_false_iff] at h
    have hne : (x != c) = true := by rw [bne_iff_ne]; intro e; rw [e] at h; simp at h
    obtain ⟨h1, h2, h3⟩ := cut_yes c A B h.2
    refine ⟨?_, ?_, ?_⟩
    · show foreB c (x :: (A ++ c :: B)) = x :: A
      rw [show foreB c (x :: (A ++ c :: B)) = x :: foreB c (A ++ c :: B) by simp [foreB, hne], h1]
    · show aftB c (x :: (A ++ c :: B)) = B
      rw [show aftB c (x :: (A ++ c :: B)) = aftB c (A ++ c :: B) by simp [aftB, hne], h2]
    · show (x :: (A ++ c :: B)).contains c = true
      rw [List.contains_cons, h3, Bool.or_true]
theorem contains_app (c : UInt8) (A B : List UInt8) : (A ++ B).contains c = (A.contains c || B.contains c) := by
  induction A with
  | nil => simp
  | cons x A ih => rw [List.cons_append, List.contains_cons, ih, List.contains_cons, Bool.or_assoc]

/-- WHAT IS PUT IS PARSED. -/
theorem parse_put (j : J) (h : ok j = true) : parse (put j) = some j := by
  obtain ⟨hn, _, _, _, h5, h6⟩ := (ok_parts j).1 h
  obtain ⟨n47, n64⟩ := node_no h5
  obtain ⟨d47, d64⟩ := dom_no h6
  obtain ⟨n, d, r⟩ := j
  dsimp only at *
  -- ahead of the resource
  obtain ⟨b, hb⟩ : ∃ b, b = if n = [] then d else n ++ [64] ++ d := ⟨_, rfl⟩
  have b47 : b.contains 47 = false := by
    rw [hb]; split
    · exact d47
    · rw [contains_app, contains_app, n47, d47]; rfl
  have hfb : (b.contains 64 = false ∧ n = [] ∧ b = d) ∨ (b.contains 64 = true ∧ n ≠ [] ∧ foreB 64 b = n ∧ aftB 64 b = d) := by
    by_cases h0 : n = []
    · left; rw [if_pos h0] at hb; rw [hb]; exact ⟨d64, h0, rfl⟩
    · right
      rw [if_neg h0, List.append_assoc] at hb
      obtain ⟨h1, h2, h3⟩ := cut_yes 64 n d n64
      rw [hb]; exact ⟨h3, h0, h1, h2⟩
  have hp : put ⟨n, d, r⟩ = b ++ (if r = [] then [] else 47 :: r) := by rw [hb]; rfl
  rw [hp]
  have key : ∀ l, foreB 47 l = b → aftB 47 l = r → (l.contains 47 && r.isEmpty) = false → parse l = some ⟨n, d, r⟩ := by
    intro l h1 h2 h3
    unfold parse
    rw [h1, h2, h3]
    dsimp only
    rcases hfb with ⟨e1, e2, e3⟩ | ⟨e1, e2, e3, e4⟩
    · rw [e1]
      simp only [Bool.false_eq_true, if_false]
      rw [← e2, e3, hn, h]
      rfl
    · rw [e1]
      simp only [if_true]
      rw [e3, e4, hn, h]
      rw [show n.isEmpty = false by cases n with | nil => exact absurd rfl e2 | cons x l => rfl]
      rfl
  by_cases hr : r = []
  · rw [if_pos hr, List.append_nil]
    obtain ⟨h1, h2⟩ := cut_no 47 b b47
    exact key b h1 (h2.trans hr.symm) (by rw [b47]; rfl)
  · rw [if_neg hr]
    obtain ⟨h1, h2, h3⟩ := cut_yes 47 b r b47
    exact key _ h1 h2 (by rw [show r.isEmpty = false by cases r with | nil => exact absurd rfl hr | cons x l => rfl, Bool.and_false])

theorem parse_some {l : List UInt8} {j : J} (h : parse l = some j) : ok j = true := by
  unfold parse at h
  dsimp only at h
  generalize norm _ = k at h
  split at h
  · cases h
  · rename_i hc
    injection h with h
    subst h
    revert hc
    cases ok k <;> simp
theorem ok_norm {j : J} (h : ok j = true) : norm j = j := ((ok_parts j).1 h).1
theorem ok_bare {j : J} (h : ok j = true) : ok ⟨j.n, j.d, []⟩ = true := by
  obtain ⟨h1, h2, h3, h4, h5, h6⟩ := (ok_parts j).1 h
  refine (ok_parts _).2 ⟨?_, h2, h3, (show isPart [] = true by decide), h5, h6⟩
  have e := h1
  unfold norm at e ⊢
  have := congrArg J.n e
  have := congrArg J.d e
  simp_all
theorem put_inj {j k : J} (hj : ok j = true) (hk : ok k = true) (h : put j = put k) : j = k := by
  have h1 := parse_put j hj
  rw [h, parse_put k hk] at h1
  injection h1 with h1
  exact h1.symm
theorem put_eq {j k : J} (hj : ok j = true) (hk : ok k = true) : decide (put j = put k) = decide (j = k) := by
  rw [decide_eq_decide]
  exact ⟨put_inj hj hk, fun h => by rw [h]⟩
theorem put_len (j : J) : (put j).length ≤ j.n.length + j.d.length + j.r.length + 2 := by
  unfold put
  rw [List.length_append]
  split <;> split <;> simp <;> omega
theorem trimLe (l : List UInt8) : (trimPoint l).length ≤ l.length := by
  unfold trimPoint; split
  · rw [List.length_dropLast]; omega
  · exact Nat.le_refl _
end Go.Proofs.YthifpbaebbodoaaDoor.JidP
