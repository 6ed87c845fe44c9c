/- The laws of escaping, over lists of bytes: what was escaped comes back, may be in an address, is not shorter; letters and digits stay. -/
import Derived.Test.YtjegeohghefdiaaEscD
set_option linter.unusedVariables false
namespace Go.Proofs.Ytjegeohghefdiaa.EscL
open EscP Esc

theorem spB_cases (x : UInt8) (h : x ∈ spB) : x = 32 ∨ x = 34 ∨ x = 38 ∨ x = 39 ∨ x = 47 ∨ x = 58 ∨ x = 60 ∨ x = 62 ∨ x = 64 ∨ x = 92 := by
  simpa [spB] using h
theorem seq3_ne (x : UInt8) (h : x ∈ spB) : hexd (x >>> 4) ≠ 92 ∧ hexd (x &&& 15) ≠ 92 ∧ isSp (hexd (x >>> 4)) = false ∧ isSp (hexd (x &&& 15)) = false := by
  rcases spB_cases x h with rfl | rfl | rfl | rfl | rfl | rfl | rfl | rfl | rfl | rfl <;> decide
theorem seq3_inj (x y : UInt8) (hx : x ∈ spB) (hy : y ∈ spB) (h : seq3 x = seq3 y) : x = y := by
  rcases spB_cases x hx with rfl | rfl | rfl | rfl | rfl | rfl | rfl | rfl | rfl | rfl <;>
  rcases spB_cases y hy with rfl | rfl | rfl | rfl | rfl | rfl | rfl | rfl | rfl | rfl <;> first | rfl | (exact absurd h (by decide))
theorem isSp_mem (c : UInt8) (h : isSp c = true) : c ∈ spB := by
  unfold isSp at h
  exact List.mem_of_mem_take (List.contains_iff_mem.1 h)
theorem isSp92 : isSp 92 = false := by decide

theorem beg_pre (l : List UInt8) (x : UInt8) (h : beg l = some x) : (seq3 x).isPrefixOf l = true := by
  unfold beg begF at h
  have := List.find?_some h
  exact this
/-- What begins, said by what stands there. -/
theorem beg_iff (l : List UInt8) (x : UInt8) : beg l = some x ↔ x ∈ spB ∧ ∃ r, l = seq3 x ++ r := by
  constructor
  · intro h
    exact ⟨beg_mem l x h, isPrefixOf_drop _ _ (beg_pre l x h)⟩
  · rintro ⟨hx, r, rfl⟩
    cases ho : beg (seq3 x ++ r) with
    | none =>
      unfold beg begF at ho
      have := List.find?_eq_none.1 ho x hx
      exact absurd (List.isPrefixOf_iff_prefix.2 (List.prefix_append _ _)) this
    | some y =>
      have hy := beg_mem _ _ ho
      have hp : (seq3 y).isPrefixOf (seq3 x ++ r) = true := beg_pre _ _ ho
      obtain ⟨r', hr'⟩ := isPrefixOf_drop _ _ hp
      have := (List.append_inj hr' rfl).1
      rw [seq3_inj x y hx hy this]
theorem beg_none_head (c : UInt8) (l : List UInt8) (h : c ≠ 92) : beg (c :: l) = none := by
  cases ho : beg (c :: l) with
  | none => rfl
  | some x =>
    have := beg_head _ _ ho
    simp at this; exact absurd this h

/-- Is the byte at the front escaped? -/
def esc (c : UInt8) (l : List UInt8) : Bool := (beg (c :: l)).isSome || isSp c
theorem escG_cons (c : UInt8) (l : List UInt8) : escG (c :: l) = (if esc c l then seq3 c else [c]) ++ escG l := rfl
theorem esc_mem (c : UInt8) (l : List UInt8) (h : esc c l = true) : c ∈ spB := by
  unfold esc at h
  rcases (Bool.or_eq_true _ _).mp h with h | h
  · obtain ⟨x, hx⟩ := Option.isSome_iff_exists.1 h
    have := beg_head _ _ hx
    have : c = 92 := by simpa using this
    rw [this]; decide
  · exact isSp_mem c h
theorem esc_no (c : UInt8) (l : List UInt8) (h : esc c l = false) : beg (c :: l) = none ∧ isSp c = false := by
  unfold esc at h
  rw [Bool.or_eq_false_iff] at h
  exact ⟨Option.isSome_eq_false_iff.1 h.1 |> Option.isNone_iff_eq_none.1, h.2⟩

/-- A front that is no backslash was not escaped. -/
theorem escG_head (l : List UInt8) (a : UInt8) (r : List UInt8) (ha : a ≠ 92) (h : escG l = a :: r) : ∃ l', l = a :: l' ∧ r = escG l' := by
  match l with
  | [] => cases h
  | d :: l' =>
    rw [escG_cons] at h
    cases he : esc d l' with
    | true =>
      rw [he] at h
      simp [seq3] at h
      exact absurd h.1.symm ha
    | false =>
      rw [he] at h
      simp at h
      exact ⟨l', by rw [h.1], h.2.symm⟩

/-- Where an escape begins in what was escaped, its byte stood. -/
theorem escG_beg (c : UInt8) (l : List UInt8) (x : UInt8) (h : beg (escG (c :: l)) = some x) : c = x ∧ esc c l = true := by
  obtain ⟨hx, r, hr⟩ := (beg_iff _ _).1 h
  obtain ⟨n1, n2, _⟩ := seq3_ne x hx
  rw [escG_cons] at hr
  cases he : esc c l with
  | true =>
    rw [he] at hr
    simp only [if_true] at hr
    exact ⟨seq3_inj _ _ (esc_mem c l he) hx (List.append_inj hr rfl).1, rfl⟩
  | false =>
    exfalso
    rw [he] at hr
    simp [seq3] at hr
    obtain ⟨rfl, h2⟩ := hr
    obtain ⟨l1, rfl, h3⟩ := escG_head _ _ _ n1 h2
    obtain ⟨l2, rfl, h4⟩ := escG_head _ _ _ n2 h3.symm
    have := (beg_iff (92 :: hexd (x >>> 4) :: hexd (x &&& 15) :: l2) x).2 ⟨hx, l2, rfl⟩
    rw [(esc_no _ _ he).1] at this
    cases this

theorem escG_ge : ∀ l : List UInt8, l.length ≤ (escG l).length
  | [] => by simp
  | c :: l => by
    have := escG_ge l
    rw [escG_cons, List.length_append, List.length_cons]
    cases esc c l <;> simp [seq3] <;> omega
theorem escG_nil (l : List UInt8) (h : escG l = []) : l = [] := by
  have := escG_ge l
  rw [h] at this
  exact List.eq_nil_of_length_eq_zero (by simpa using this)

/-- What was escaped comes back. -/
theorem unG_escG : ∀ (l : List UInt8) (f : Nat) (st : Bool), (escG l).length ≤ f → (st = true → l.head? ≠ some 32) → l.getLast? ≠ some 32 → unG f st (escG l) = l
  | [], f, st, _, _, _ => by cases f <;> rfl
  | c :: l, f, st, hf, hst, hl => by
    have hlast : l ≠ [] → l.getLast? ≠ some 32 := by
      intro hne h
      apply hl
      rw [List.getLast?_cons]
      rw [h]; rfl
    have hlast' : l.getLast? ≠ some 32 := by
      by_cases hne : l = []
      · rw [hne]; simp
      · exact hlast hne
    cases he : esc c l with
    | true =>
      have hm := esc_mem c l he
      have heq : escG (c :: l) = seq3 c ++ escG l := by rw [escG_cons, he]; rfl
      have hb : beg (escG (c :: l)) = some c := (beg_iff _ _).2 ⟨hm, escG l, heq⟩
      rw [heq] at hf hb ⊢
      simp only [List.length_append, seq3_len] at hf
      obtain ⟨g, rfl⟩ : ∃ g, f = g + 1 := ⟨f - 1, by omega⟩
      have hc : (c != 32 || (!st && decide (3 < (seq3 c ++ escG l).length))) = true := by
        by_cases h32 : c = 32
        · subst h32
          have h1 : st = false := by
            cases st with
            | true => exact absurd rfl (hst rfl)
            | false => rfl
          have h2 : l ≠ [] := by
            intro hn; subst hn
            exact hl rfl
          have h3 : escG l ≠ [] := fun h => h2 (escG_nil l h)
          have h4 : 0 < (escG l).length := List.length_pos_iff.2 h3
          subst h1
          simp [seq3_len]; omega
        · simp [h32]
      show unG (g + 1) st (92 :: (hexd (c >>> 4) :: hexd (c &&& 15) :: escG l)) = c :: l
      have hb' : beg (92 :: (hexd (c >>> 4) :: hexd (c &&& 15) :: escG l)) = some c := hb
      have hc' : (c != 32 || (!st && decide (3 < (92 :: (hexd (c >>> 4) :: hexd (c &&& 15) :: escG l)).length))) = true := hc
      simp only [unG, hb']
      rw [if_pos hc']
      simp only [List.drop_succ_cons, List.drop_zero]
      rw [unG_escG l g false (by omega) (by simp) hlast']
    | false =>
      have heq : escG (c :: l) = c :: escG l := by rw [escG_cons, he]; rfl
      have hb : beg (escG (c :: l)) = none := by
        cases ho : beg (escG (c :: l)) with
        | none => rfl
        | some x => have := (escG_beg c l x ho).2; rw [he] at this; cases this
      rw [heq] at hf hb ⊢
      simp only [List.length_cons] at hf
      obtain ⟨g, rfl⟩ : ∃ g, f = g + 1 := ⟨f - 1, by omega⟩
      simp only [unG, hb]
      rw [unG_escG l g false (by omega) (by simp) hlast']
theorem bad_parts (l : List UInt8) (h : bad l = false) : l ≠ [] ∧ l.head? ≠ some 32 ∧ l.getLast? ≠ some 32 := by
  unfold bad at h
  rw [Bool.or_eq_false_iff, Bool.or_eq_false_iff] at h
  obtain ⟨⟨h1, h2⟩, h3⟩ := h
  exact ⟨List.isEmpty_eq_false_iff.1 h1, by simpa using h2, by simpa using h3⟩
theorem un_escG (l : List UInt8) (h : bad l = false) : un (escG l) = l := by
  obtain ⟨_, h2, h3⟩ := bad_parts l h
  exact unG_escG l _ true (Nat.le_refl _) (fun _ => h2) h3

theorem escG_any : ∀ l : List UInt8, (escG l).any isSp = false
  | [] => rfl
  | c :: l => by
    rw [escG_cons, List.any_append, escG_any l, Bool.or_false]
    cases he : esc c l with
    | true =>
      obtain ⟨_, _, h3, h4⟩ := seq3_ne c (esc_mem c l he)
      simp [seq3, isSp92, h3, h4]
    | false => simp [(esc_no c l he).2]
theorem not32 (l : List UInt8) (h : l.any isSp = false) : (32 : UInt8) ∉ l := by
  intro hm
  rw [List.any_eq_false] at h
  exact h 32 hm (by decide)
theorem bad_escG (l : List UInt8) (h : bad l = false) : bad (escG l) = false := by
  obtain ⟨h1, _, _⟩ := bad_parts l h
  have hn : escG l ≠ [] := fun e => h1 (escG_nil l e)
  have h32 := not32 _ (escG_any l)
  unfold bad
  rw [Bool.or_eq_false_iff, Bool.or_eq_false_iff]
  refine ⟨⟨List.isEmpty_eq_false_iff.2 hn, ?_⟩, ?_⟩
  · rw [beq_eq_false_iff_ne]; intro e
    exact h32 (List.mem_of_head? e)
  · rw [beq_eq_false_iff_ne]; intro e
    exact h32 (List.mem_of_getLast? e)

theorem suffix_short (p E l : List UInt8) (h : p <:+ E ++ l) (hl : p.length ≤ l.length) : p <:+ l := by
  exact List.suffix_of_suffix_length_le h (List.suffix_append _ _) hl
/-- An escaped blank at the end is the last byte's. -/
theorem escG_suffix : ∀ l : List UInt8, seq3 32 <:+ escG l → l.getLast? = some 32
  | [], h => by
    have := h.length_le
    simp [seq3, escG] at this
  | c :: l, h => by
    by_cases h3 : 3 ≤ (escG l).length
    · rw [escG_cons] at h
      have := escG_suffix l (suffix_short _ _ _ h (by rw [seq3_len]; exact h3))
      rw [List.getLast?_cons, this]; rfl
    · have hge := escG_ge l
      obtain ⟨t, ht⟩ := h
      match l, hge, h3, ht with
      | [], _, _, ht =>
        cases he : esc c [] with
        | true =>
          have heq : escG [c] = seq3 c := by rw [escG_cons, he]; simp [escG]
          rw [heq] at ht
          have htl : t = [] := by
            have := congrArg List.length ht
            simp [seq3_len] at this
            exact this
          subst htl
          have : c = 32 := (seq3_inj 32 c (by decide) (esc_mem _ _ he) (by simpa using ht)).symm
          rw [this]; rfl
        | false =>
          have heq : escG [c] = [c] := by rw [escG_cons, he]; simp [escG]
          rw [heq] at ht
          have := congrArg List.length ht
          simp [seq3_len] at this
      | [a], _, h3, ht =>
        exfalso
        have hea : esc a [] = false := by
          cases hq : esc a [] with
          | false => rfl
          | true => exfalso; apply h3; rw [escG_cons, hq]; simp [seq3_len, escG]
        have h1 : escG [a] = [a] := by rw [escG_cons, hea]; simp [escG]
        rw [escG_cons, h1] at ht
        cases he : esc c [a] with
        | true =>
          rw [he] at ht
          obtain ⟨n1, n2, _⟩ := seq3_ne c (esc_mem _ _ he)
          match t, ht with
          | [], ht => simp [seq3] at ht
          | [b], ht =>
            simp [seq3] at ht
            exact n1 ht.2.1.symm
          | b :: d :: t, ht =>
            have := congrArg List.length ht
            simp [seq3_len] at this
        | false =>
          rw [he] at ht
          have := congrArg List.length ht
          simp [seq3_len] at this
      | [a, b], _, h3, ht =>
        exfalso
        have heb : esc b [] = false := by
          cases hq : esc b [] with
          | false => rfl
          | true => exfalso; apply h3; rw [escG_cons, List.length_append, escG_cons b, hq]; simp [seq3_len, escG]
        have hea : esc a [b] = false := by
          cases hq : esc a [b] with
          | false => rfl
          | true => exfalso; apply h3; rw [escG_cons, hq]; simp [seq3_len]
        have h1 : escG [a, b] = [a, b] := by rw [escG_cons, hea, escG_cons, heb]; simp [escG]
        rw [escG_cons, h1] at ht
        cases he : esc c [a, b] with
        | true =>
          rw [he] at ht
          obtain ⟨n1, n2, _⟩ := seq3_ne c (esc_mem _ _ he)
          match t, ht with
          | [], ht => simp [seq3] at ht
          | [x], ht => simp [seq3] at ht
          | [x, y], ht =>
            simp [seq3] at ht
            exact n2 ht.2.2.1.symm
          | x :: y :: z :: t, ht =>
            have := congrArg List.length ht
            simp [seq3_len] at this
        | false =>
          rw [he] at ht
          match t, ht with
          | [], ht =>
            simp [seq3] at ht
            obtain ⟨rfl, rfl, rfl⟩ := ht
            exact absurd he (by decide)
          | x :: t, ht =>
            have := congrArg List.length ht
            simp [seq3_len] at this
      | a :: b :: d :: l, hge, h3, _ =>
        exfalso; apply h3
        simp only [List.length_cons] at hge
        omega

/-- What was escaped may be in an address. -/
theorem isOk_escG (l : List UInt8) (h : bad l = false) : isOk (escG l) = true := by
  obtain ⟨h1, h2, h3⟩ := bad_parts l h
  unfold isOk
  rw [escG_any l, List.isEmpty_eq_false_iff.2 (fun e => h1 (escG_nil l e))]
  have hp : (seq3 32).isPrefixOf (escG l) = false := by
    rw [Bool.eq_false_iff]; intro hp
    obtain ⟨r, hr⟩ := isPrefixOf_drop _ _ hp
    match l, h1 with
    | c :: l, _ =>
      have := (escG_beg c l 32 ((beg_iff _ _).2 ⟨by decide, r, hr⟩)).1
      exact h2 (by rw [this]; rfl)
  have hs : (seq3 32).isSuffixOf (escG l) = false := by
    rw [Bool.eq_false_iff]; intro hp
    exact h3 (escG_suffix l (List.isSuffixOf_iff_suffix.1 hp))
  rw [hp, hs]; rfl

theorem unG_le : ∀ (f : Nat) (st : Bool) (l : List UInt8), (unG f st l).length ≤ l.length
  | 0, _, _ => by simp [unG]
  | _ + 1, _, [] => by simp [unG]
  | f + 1, st, c :: l => by
    simp only [unG]
    have h1 := unG_le f false (l.drop 2)
    have h2 := unG_le f false l
    rw [List.length_drop] at h1
    split
    · split
      · simp only [List.length_cons]; omega
      · simp only [List.length_cons]; omega
    · simp only [List.length_cons]; omega

/-- A letter or a digit. -/
def plainB (c : UInt8) : Bool := (97 ≤ c && c ≤ 122) || (48 ≤ c && c ≤ 57)
theorem plainB_no (c : UInt8) (h : plainB c = true) : c ≠ 92 ∧ isSp c = false := by
  have h92 : plainB 92 = false := by decide
  constructor
  · rintro rfl; rw [h92] at h; cases h
  · cases hs : isSp c with
    | false => rfl
    | true =>
      exfalso
      rcases spB_cases c (isSp_mem c hs) with rfl | rfl | rfl | rfl | rfl | rfl | rfl | rfl | rfl | rfl <;> exact absurd h (by decide)
theorem plain_escG : ∀ l : List UInt8, l.all plainB = true → escG l = l
  | [], _ => rfl
  | c :: l, h => by
    rw [List.all_cons, Bool.and_eq_true] at h
    obtain ⟨h1, h2⟩ := plainB_no c h.1
    rw [escG_cons, esc, beg_none_head c l h1, h2, plain_escG l h.2]; rfl
theorem plain_unG : ∀ (l : List UInt8) (f : Nat) (st : Bool), l.length ≤ f → l.all plainB = true → unG f st l = l
  | [], f, st, _, _ => by cases f <;> rfl
  | c :: l, f, st, hf, h => by
    rw [List.all_cons, Bool.and_eq_true] at h
    obtain ⟨h1, h2⟩ := plainB_no c h.1
    simp only [List.length_cons] at hf
    obtain ⟨g, rfl⟩ : ∃ g, f = g + 1 := ⟨f - 1, by omega⟩
    simp only [unG, beg_none_head c l h1]
    rw [plain_unG l g false (by omega) h.2]
theorem plain_not (l : List UInt8) (h : l.all plainB = true) (x : UInt8) (hx : plainB x = false) : x ∉ l := by
  intro hm
  have := List.all_eq_true.1 h x hm
  rw [hx] at this; cases this
theorem plain_bad (l : List UInt8) (hn : l ≠ []) (h : l.all plainB = true) : bad l = false := by
  have h32 := plain_not l h 32 (by decide)
  unfold bad
  rw [Bool.or_eq_false_iff, Bool.or_eq_false_iff]
  refine ⟨⟨List.isEmpty_eq_false_iff.2 hn, ?_⟩, ?_⟩
  · rw [beq_eq_false_iff_ne]; intro e
    exact h32 (List.mem_of_head? e)
  · rw [beq_eq_false_iff_ne]; intro e
    exact h32 (List.mem_of_getLast? e)
theorem plain_isOk (l : List UInt8) (hn : l ≠ []) (h : l.all plainB = true) : isOk l = true := by
  have := isOk_escG l (plain_bad l hn h)
  rwa [plain_escG l h] at this

end Go.Proofs.Ytjegeohghefdiaa.EscL
