/- Addresses: the case of a letter. Plain lists: no program in sight. -/
import Derived.Test.YthifpbaebbodoaaDoorJidQ
set_option linter.unusedVariables false
set_option linter.unusedSimpArgs false
namespace Go.Proofs.YthifpbaebbodoaaDoor.JidP
open GlyP Gly Strs Lib

def lo (b : Nat) : Nat := if 65 ≤ b ∧ b ≤ 90 then b + 32 else b
theorem low_nat (c : UInt8) : (low c).toNat = lo c.toNat := by
  have h : ∀ n : Fin 256, (low (UInt8.ofNat n.val)).toNat = lo n.val := by decide +kernel
  have := h ⟨c.toNat, c.toNat_lt⟩
  simpa using this
theorem by_low (l : List UInt8) (i : Nat) : by_ (l.map low) i = lo (by_ l i) := by
  unfold by_
  rw [← low_nat]
  congr 1
  rw [List.getD_eq_getElem?_getD, List.getElem?_map, List.getD_eq_getElem?_getD]
  cases l[i]? with
  | none => rfl
  | some x => rfl
theorem dec_low (n b0 b1 b2 b3 : Nat) : decodeN n (lo b0) (lo b1) (lo b2) (lo b3) = if b0 < 128 then (lo b0, 1) else decodeN n b0 b1 b2 b3 := by
  have k1 : ∀ b, (lo b / 64 = 2) = (b / 64 = 2) := fun b => by unfold lo; split <;> (apply propext; omega)
  have k2 : ∀ b, b / 64 = 2 → lo b = b := fun b h => by unfold lo; rw [if_neg (by omega)]
  by_cases h0 : b0 < 128
  · rw [if_pos h0]
    unfold decodeN
    rw [if_pos (by unfold lo; split <;> omega)]
  · have h0' : lo b0 = b0 := by unfold lo; rw [if_neg (by omega)]
    rw [if_neg h0, h0']
    unfold decodeN
    by_cases h1 : b1 / 64 = 2
    · rw [k2 b1 h1]
      by_cases h2 : b2 / 64 = 2
      · rw [k2 b2 h2]
        by_cases h3 : b3 / 64 = 2
        · rw [k2 b3 h3]
        · have n3 : ¬ lo b3 / 64 = 2 := by rw [k1]; exact h3
          simp only [h3, n3, and_false, if_false]
      · have n2 : ¬ lo b2 / 64 = 2 := by rw [k1]; exact h2
        simp only [h2, n2, and_false, false_and, if_false]
    · have n1 : ¬ lo b1 / 64 = 2 := by rw [k1]; exact h1
      simp only [h1, n1, and_false, false_and, if_false]
theorem dec_map (l : List UInt8) : dec (l.map low) = if by_ l 0 < 128 then (lo (by_ l 0), 1) else dec l := by
  unfold dec
  rw [by_low, by_low, by_low, by_low, List.length_map, dec_low]
theorem plain_lo (b : Nat) (h : b < 128) : plain (lo b) = plain b := by
  have : ∀ n : Fin 128, plain (lo n.val) = plain n.val := by decide +kernel
  exact this ⟨b, h⟩
theorem signs_low : ∀ (k : Nat) (l : List UInt8), (signs k (l.map low)).isSome = (signs k l).isSome
  | k, [] => by cases k <;> rfl
  | 0, _ :: _ => rfl
  | k + 1, a :: l => by
    have hd := dec_map (a :: l)
    have hl : (((a :: l).map low).length = 0) = ((a :: l).length = 0) := by rw [List.length_map]
    show (match first ((a :: l).map low) with | none => none | some (c, n) => if plain c then (signs k (((a :: l).map low).drop n)).map (c :: ·) else none : Option (List Nat)).isSome = (match first (a :: l) with | none => none | some (c, n) => if plain c then (signs k ((a :: l).drop n)).map (c :: ·) else none : Option (List Nat)).isSome
    by_cases h0 : by_ (a :: l) 0 < 128
    · have h1 : dec (a :: l) = (by_ (a :: l) 0, 1) := by unfold dec decodeN; rw [if_pos h0]
      rw [if_pos h0] at hd
      have f1 : first (a :: l) = some (by_ (a :: l) 0, 1) := by
        unfold first; rw [if_neg (by simp), h1, if_neg (by dsimp only; omega)]
      have f2 : first ((a :: l).map low) = some (lo (by_ (a :: l) 0), 1) := by
        unfold first; rw [if_neg (by simp), hd, if_neg (by dsimp only; unfold lo; split <;> omega)]
      rw [f1, f2]
      dsimp only
      rw [plain_lo _ h0, ← List.map_drop]
      cases plain (by_ (a :: l) 0) with
      | false => rfl
      | true => rw [if_pos rfl, if_pos rfl, Option.isSome_map, Option.isSome_map]; exact signs_low k _
    · rw [if_neg h0] at hd
      have f2 : first ((a :: l).map low) = first (a :: l) := by unfold first; rw [hd, List.length_map]
      rw [f2]
      cases first (a :: l) with
      | none => rfl
      | some x =>
        dsimp only
        rw [← List.map_drop]
        cases plain x.1 with
        | false => rfl
        | true => rw [if_pos rfl, if_pos rfl, Option.isSome_map, Option.isSome_map]; exact signs_low k _
theorem isText_low (l : List UInt8) : isText (l.map low) = isText l := by
  unfold isText; rw [List.length_map]; exact signs_low _ l
theorem ctrl_low (c : UInt8) : (!(decide (low c < 32) || low c == 127)) = (!(decide (c < 32) || c == 127)) := by
  have h : ∀ n : Fin 256, (!(decide (low (UInt8.ofNat n.val) < 32) || low (UInt8.ofNat n.val) == 127)) = (!(decide (UInt8.ofNat n.val < 32) || UInt8.ofNat n.val == 127)) := by decide +kernel
  have := h ⟨c.toNat, c.toNat_lt⟩
  simpa using this
theorem isPart_low (l : List UInt8) : isPart (l.map low) = isPart l := by
  unfold isPart
  rw [List.length_map, isText_low, List.all_map]
  congr 2
  congr 1
  funext c
  exact ctrl_low c
theorem isPart_sim {l m : List UInt8} (h : l.map low = m.map low) : isPart l = isPart m := by rw [← isPart_low l, h, isPart_low]

/-- A byte that low neither turns nor makes. -/
def Firm (c : UInt8) : Prop := ∀ a : UInt8, (low a != c) = (a != c)
theorem firm_slash : Firm 47 := fun c => by
  have h : ∀ n : Fin 256, (low (UInt8.ofNat n.val) != 47) = (UInt8.ofNat n.val != 47) := by decide +kernel
  have := h ⟨c.toNat, c.toNat_lt⟩
  simpa using this
theorem firm_at : Firm 64 := fun c => by
  have h : ∀ n : Fin 256, (low (UInt8.ofNat n.val) != 64) = (UInt8.ofNat n.val != 64) := by decide +kernel
  have := h ⟨c.toNat, c.toNat_lt⟩
  simpa using this
theorem fore_map (c : UInt8) (hc : Firm c) (l : List UInt8) : foreB c (l.map low) = (foreB c l).map low := by
  unfold foreB
  rw [List.takeWhile_map, show ((fun x => x != c) ∘ low) = (fun x => x != c) from funext hc]
theorem aft_map (c : UInt8) (hc : Firm c) (l : List UInt8) : aftB c (l.map low) = (aftB c l).map low := by
  unfold aftB
  rw [List.dropWhile_map, show ((fun x => x != c) ∘ low) = (fun x => x != c) from funext hc, List.map_tail]
theorem contains_map (c : UInt8) (hc : Firm c) (l : List UInt8) : (l.map low).contains c = l.contains c := by
  induction l with
  | nil => rfl
  | cons x l ih =>
    have h := hc x
    rw [List.map_cons, List.contains_cons, ih, List.contains_cons]
    congr 1
    have e : ∀ y : UInt8, (c == y) = !(y != c) := fun y => by rw [bne, Bool.not_not, Bool.beq_comm]
    rw [e, e, h]

/-- The address of a text, of its small letters and of what is behind the bar. -/
def parse2 (L r : List UInt8) : Option J :=
  let b := foreB 47 L
  let two := b.contains 64
  let j : J := ⟨if two then foreB 64 b else [], trimPoint (if two then aftB 64 b else b), r⟩
  if (L.contains 47 && r.isEmpty) || ((two && (foreB 64 b).isEmpty) || !(ok j)) then none else some j
theorem parse_two (l : List UInt8) : parse l = parse2 (l.map low) (aftB 47 l) := by
  unfold parse parse2
  dsimp only
  rw [contains_map 47 firm_slash, fore_map 47 firm_slash, contains_map 64 firm_at, fore_map 64 firm_at, aft_map 64 firm_at]
  have he : ∀ x : List UInt8, (x.map low).isEmpty = x.isEmpty := fun x => by cases x <;> rfl
  rw [he]
  have hn : norm ⟨if (foreB 47 l).contains 64 = true then foreB 64 (foreB 47 l) else [], if (foreB 47 l).contains 64 = true then aftB 64 (foreB 47 l) else foreB 47 l, aftB 47 l⟩
      = ⟨if (foreB 47 l).contains 64 = true then (foreB 64 (foreB 47 l)).map low else [], trimPoint (if (foreB 47 l).contains 64 = true then (aftB 64 (foreB 47 l)).map low else (foreB 47 l).map low), aftB 47 l⟩ := by
    unfold norm
    cases (foreB 47 l).contains 64 <;> rfl
  rw [hn]
theorem ok_r (n d r s : List UInt8) (h : isPart r = isPart s) : ok ⟨n, d, r⟩ = ok ⟨n, d, s⟩ := by
  have hx : ∀ r : List UInt8, (norm ⟨n, d, r⟩ == (⟨n, d, r⟩ : J)) = (decide (n.map low = n) && decide (trimPoint (d.map low) = d)) := fun r => by
    rw [Bool.eq_iff_iff]
    simp only [beq_iff_eq, Bool.and_eq_true, decide_eq_true_eq, norm, J.mk.injEq, and_true]
  unfold ok
  rw [hx, hx]
  dsimp only
  rw [h]

theorem ite_is (c : Bool) (x : J) : (if c = true then none else some x : Option J).isSome = !c := by cases c <;> rfl
theorem ite_so (c : Bool) (x j : J) (h : (if c = true then none else some x : Option J) = some j) : j = x := by cases c <;> simp_all
/-- THE CASE OF A LETTER: what parses, and to what. -/
theorem parse_case (A B : List UInt8) (x y : UInt8) (hl : low x = low y) (hx : x ≠ y) (h47 : x ≠ 47 ∧ y ≠ 47) :
    (A.contains 47 = false → parse (A ++ x :: B) = parse (A ++ y :: B)) ∧
    (A.contains 47 = true → (parse (A ++ x :: B)).isSome = (parse (A ++ y :: B)).isSome ∧ ∀ j k, parse (A ++ x :: B) = some j → parse (A ++ y :: B) = some k → j.r ≠ k.r) := by
  have hm : (A ++ x :: B).map low = (A ++ y :: B).map low := by rw [List.map_append, List.map_append, List.map_cons, List.map_cons, hl]
  constructor
  · intro hA
    have ha : ∀ z : UInt8, z ≠ 47 → aftB 47 (A ++ z :: B) = aftB 47 B := by
      intro z hz
      have hd : ∀ c ∈ A, (c != 47) = true := fun c hc => by
        rw [bne_iff_ne]; intro e; subst e
        have : A.contains 47 = true := by simpa using hc
        rw [hA] at this; cases this
      unfold aftB
      rw [List.dropWhile_append_of_pos hd, List.dropWhile_cons_of_pos (by rw [bne_iff_ne]; exact hz)]
    rw [parse_two, parse_two, hm, ha x h47.1, ha y h47.2]
  · intro hA
    rcases parts 47 A with ⟨_, _, h3⟩ | ⟨h1, _⟩
    · have hno := foreB_no 47 A
      obtain ⟨F, hF⟩ : ∃ F, F = foreB 47 A := ⟨_, rfl⟩
      obtain ⟨G, hG⟩ : ∃ G, G = aftB 47 A := ⟨_, rfl⟩
      rw [← hF, ← hG] at h3
      rw [← hF] at hno
      have ha : ∀ z : UInt8, aftB 47 (A ++ z :: B) = G ++ z :: B := fun z => by
        rw [h3, List.append_assoc, List.cons_append]
        exact (cut_yes 47 F (G ++ z :: B) hno).2.1
      rw [parse_two, parse_two, hm, ha x, ha y]
      have hp : isPart (G ++ x :: B) = isPart (G ++ y :: B) := isPart_sim (by rw [List.map_append, List.map_append, List.map_cons, List.map_cons, hl])
      have he : ∀ z : UInt8, (G ++ z :: B).isEmpty = false := fun z => by cases G <;> rfl
      unfold parse2
      dsimp only
      rw [he x, he y, ok_r _ _ _ _ hp]
      constructor
      · rw [ite_is, ite_is]
      · intro j k hj hk
        have ej := ite_so _ _ _ hj
        have ek := ite_so _ _ _ hk
        subst ej; subst ek
        dsimp only
        intro e
        have := List.append_cancel_left e
        injection this with e1 _
        exact hx e1
    · rw [hA] at h1; cases h1
theorem parse_case_nd (A B : List UInt8) (x y : UInt8) (hl : low x = low y) (j k : J) (hj : parse (A ++ x :: B) = some j) (hk : parse (A ++ y :: B) = some k) : j.n = k.n ∧ j.d = k.d := by
  have hm : (A ++ x :: B).map low = (A ++ y :: B).map low := by rw [List.map_append, List.map_append, List.map_cons, List.map_cons, hl]
  rw [parse_two] at hj hk
  rw [hm] at hj
  unfold parse2 at hj hk
  dsimp only at hj hk
  have ej := ite_so _ _ _ hj
  have ek := ite_so _ _ _ hk
  subst ej; subst ek
  exact ⟨rfl, rfl⟩
end Go.Proofs.YthifpbaebbodoaaDoor.JidP
