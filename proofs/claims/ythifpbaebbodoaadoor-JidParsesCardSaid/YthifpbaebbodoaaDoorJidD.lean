/- jid.Parse at this translation: joined. -/
import Derived.Test.YthifpbaebbodoaaDoorJidC
set_option linter.unusedVariables false
set_option linter.unusedSimpArgs false
namespace Go.Proofs.YthifpbaebbodoaaDoor.Jid
open Go.RowKit GlyP Gly Strs JidP

theorem aft_le (c : UInt8) (l : List UInt8) : (aftB c l).length ≤ l.length := by
  rcases parts c l with ⟨_, _, h⟩ | ⟨_, _, _, h⟩
  · have := congrArg List.length h
    rw [List.length_append, List.length_cons] at this; omega
  · rw [h]; simp
theorem size_mk (l : List UInt8) : (⟨l.toArray⟩ : ByteArray).size = l.length := by rw [← U.len_data]
theorem trim_le (l : List UInt8) : (trimPoint l).length ≤ l.length := by
  unfold trimPoint; split
  · rw [List.length_dropLast]; omega
  · exact Nat.le_refl _
def parseV (l : List UInt8) : Value := match parse l with | some j => .tuple #[V j, .int .i64 0] | none => bad
theorem mif (c : Bool) (j : J) (f : J → Value) (b : Value) : (match (if c = true then none else some j : Option J) with | some j => f j | none => b) = if c = true then b else f j := by cases c <;> rfl
theorem isEmpty_size (s : ByteArray) : s.data.toList.isEmpty = decide (s.size = 0) := by
  rw [← U.len_data]; cases s.data.toList <;> simp

theorem Parse_any (s : ByteArray) (hs : s.size ≤ 68719476736) (w : World) :
    Calls Tryd.prog 10 #[.string s] w fun e w' => e = .returned (parseV s.data.toList) ∧ Below w.heap.size w w' := by
  obtain ⟨l, hl⟩ : ∃ l, l = s.data.toList := ⟨_, rfl⟩
  have hll : l.length ≤ 68719476736 := by rw [hl, U.len_data]; exact hs
  have H1 : CutSays 47 s ⟨(foreB 47 l).toArray⟩ ⟨(aftB 47 l).toArray⟩ (l.contains 47) := Lib.hid (fun w => by rw [hl]; exact Cut_any 47 s (by omega) w)
  have hB : (foreB 47 l).length ≤ 68719476736 := Nat.le_trans (foreB_le 47 l) hll
  have hR : (aftB 47 l).length ≤ 68719476736 := Nat.le_trans (aft_le 47 l) hll
  obtain ⟨b, hb⟩ : ∃ b, b = foreB 47 l := ⟨_, rfl⟩
  obtain ⟨r, hr⟩ : ∃ r, r = aftB 47 l := ⟨_, rfl⟩
  obtain ⟨has, hh⟩ : ∃ has, has = l.contains 47 := ⟨_, rfl⟩
  have H2 : CutSays 64 ⟨b.toArray⟩ ⟨(foreB 64 b).toArray⟩ ⟨(aftB 64 b).toArray⟩ (b.contains 64) := Lib.hid (fun w => Cut_any 64 ⟨b.toArray⟩ (by rw [size_mk, hb]; omega) w)
  have hN : (foreB 64 b).length ≤ 68719476736 := Nat.le_trans (foreB_le 64 b) (hb ▸ hB)
  have hD : (aftB 64 b).length ≤ 68719476736 := Nat.le_trans (aft_le 64 b) (hb ▸ hB)
  have hp : parseV l = if ((has && r.isEmpty) || ((b.contains 64 && (foreB 64 b).isEmpty) || !(ok (norm ⟨if b.contains 64 then foreB 64 b else [], if b.contains 64 then aftB 64 b else b, r⟩)))) = true then bad
      else .tuple #[V (norm ⟨if b.contains 64 then foreB 64 b else [], if b.contains 64 then aftB 64 b else b, r⟩), .int .i64 0] := by
    rw [hb, hr, hh]
    exact mif _ _ (fun j => .tuple #[V j, .int .i64 0]) bad
  rw [← hl, hp]
  rw [← hb, ← hr, ← hh] at H1
  rw [← hb] at hB
  rw [← hr] at hR
  clear hp hb hr hh hl hll hs
  have check : ∀ n d : List UInt8, n.length ≤ 68719476736 → d.length ≤ 68719476736 → NormSays ⟨n.toArray⟩ ⟨d.toArray⟩ ⟨r.toArray⟩ ⟨((norm ⟨n, d, r⟩).n).toArray⟩ ⟨((norm ⟨n, d, r⟩).d).toArray⟩ ∧
      ∀ v, (if ok (norm ⟨n, d, r⟩) = true then (0 : Int) else 30) = v → CheckSays ⟨((norm ⟨n, d, r⟩).n).toArray⟩ ⟨((norm ⟨n, d, r⟩).d).toArray⟩ ⟨r.toArray⟩ v := by
    intro n d h1 h2
    refine ⟨Lib.hid (fun w => Norm_any ⟨n.toArray⟩ ⟨d.toArray⟩ ⟨r.toArray⟩ (by rw [size_mk]; exact h1) (by rw [size_mk]; exact h2) w), fun v hv => Lib.hid (fun w => ?_)⟩
    rw [← hv]
    refine Check_any ⟨((norm ⟨n, d, r⟩).n).toArray⟩ ⟨((norm ⟨n, d, r⟩).d).toArray⟩ ⟨r.toArray⟩ ?_ ?_ (by rw [size_mk]; exact hR) w
    · rw [size_mk]; show (n.map low).length ≤ _; rw [List.length_map]; exact h1
    · rw [size_mk]; show (trimPoint (d.map low)).length ≤ _; exact Nat.le_trans (trim_le _) (by rw [List.length_map]; exact h2)
  have er : r.isEmpty = decide ((⟨r.toArray⟩ : ByteArray).size = 0) := isEmpty_size ⟨r.toArray⟩
  have en : (foreB 64 b).isEmpty = decide ((⟨(foreB 64 b).toArray⟩ : ByteArray).size = 0) := isEmpty_size ⟨(foreB 64 b).toArray⟩
  cases two : b.contains 64 with
  | true =>
    obtain ⟨H3, hc⟩ := check (foreB 64 b) (aftB 64 b) hN hD
    rw [two] at H2
    rw [if_pos rfl, if_pos rfl]
    by_cases hr0 : (⟨r.toArray⟩ : ByteArray).size = 0
    · cases has with
      | true =>
        rw [if_pos (by rw [er, decide_eq_true hr0]; rfl)]
        exact Parse_tA _ _ _ _ _ _ _ _ w H1 H2 H3 rfl hr0
      | false =>
        by_cases hn0 : (⟨(foreB 64 b).toArray⟩ : ByteArray).size = 0
        · rw [if_pos (by rw [en, decide_eq_true hn0]; rfl)]
          exact Parse_tBE _ _ _ _ _ _ _ _ w H1 H2 H3 rfl hn0
        · cases hk : ok (norm ⟨foreB 64 b, aftB 64 b, r⟩) with
          | true =>
            rw [if_neg (by rw [en, decide_eq_false hn0]; simp)]
            exact Parse_tBF0 _ _ _ _ _ _ _ _ w H1 H2 H3 rfl (Nat.pos_of_ne_zero hn0) (hc 0 (by rw [hk]; rfl))
          | false =>
            rw [if_pos (by rw [en, decide_eq_false hn0]; rfl)]
            exact Parse_tBF30 _ _ _ _ _ _ _ _ w H1 H2 H3 rfl (Nat.pos_of_ne_zero hn0) (hc 30 (by rw [hk]; rfl))
    · cases has with
      | true =>
        by_cases hn0 : (⟨(foreB 64 b).toArray⟩ : ByteArray).size = 0
        · rw [if_pos (by rw [en, decide_eq_true hn0, er, decide_eq_false hr0]; rfl)]
          exact Parse_tCE _ _ _ _ _ _ _ _ w H1 H2 H3 rfl (Nat.pos_of_ne_zero hr0) hn0
        · cases hk : ok (norm ⟨foreB 64 b, aftB 64 b, r⟩) with
          | true =>
            rw [if_neg (by rw [en, decide_eq_false hn0, er, decide_eq_false hr0]; simp)]
            exact Parse_tCF0 _ _ _ _ _ _ _ _ w H1 H2 H3 rfl (Nat.pos_of_ne_zero hr0) (Nat.pos_of_ne_zero hn0) (hc 0 (by rw [hk]; rfl))
          | false =>
            rw [if_pos (by rw [en, decide_eq_false hn0, er, decide_eq_false hr0]; rfl)]
            exact Parse_tCF30 _ _ _ _ _ _ _ _ w H1 H2 H3 rfl (Nat.pos_of_ne_zero hr0) (Nat.pos_of_ne_zero hn0) (hc 30 (by rw [hk]; rfl))
      | false =>
        by_cases hn0 : (⟨(foreB 64 b).toArray⟩ : ByteArray).size = 0
        · rw [if_pos (by rw [en, decide_eq_true hn0]; rfl)]
          exact Parse_tBE _ _ _ _ _ _ _ _ w H1 H2 H3 rfl hn0
        · cases hk : ok (norm ⟨foreB 64 b, aftB 64 b, r⟩) with
          | true =>
            rw [if_neg (by rw [en, decide_eq_false hn0]; simp)]
            exact Parse_tBF0 _ _ _ _ _ _ _ _ w H1 H2 H3 rfl (Nat.pos_of_ne_zero hn0) (hc 0 (by rw [hk]; rfl))
          | false =>
            rw [if_pos (by rw [en, decide_eq_false hn0]; rfl)]
            exact Parse_tBF30 _ _ _ _ _ _ _ _ w H1 H2 H3 rfl (Nat.pos_of_ne_zero hn0) (hc 30 (by rw [hk]; rfl))
  | false =>
    obtain ⟨H3, hc⟩ := check [] b (by simp) hB
    rw [two] at H2
    rw [if_neg (show ¬ (false = true) by decide), if_neg (show ¬ (false = true) by decide)]
    by_cases hr0 : (⟨r.toArray⟩ : ByteArray).size = 0
    · cases has with
      | true =>
        rw [if_pos (by rw [er, decide_eq_true hr0]; rfl)]
        exact Parse_fA _ _ _ _ _ _ _ _ w H1 H2 H3 rfl hr0
      | false =>
        cases hk : ok (norm ⟨[], b, r⟩) with
        | true =>
          rw [if_neg (by simp)]
          exact Parse_fB0 _ _ _ _ _ _ _ _ w H1 H2 H3 rfl (hc 0 (by rw [hk]; rfl))
        | false =>
          rw [if_pos (by simp)]
          exact Parse_fB30 _ _ _ _ _ _ _ _ w H1 H2 H3 rfl (hc 30 (by rw [hk]; rfl))
    · cases has with
      | true =>
        cases hk : ok (norm ⟨[], b, r⟩) with
        | true =>
          rw [if_neg (by rw [er, decide_eq_false hr0]; simp)]
          exact Parse_fC0 _ _ _ _ _ _ _ _ w H1 H2 H3 rfl (Nat.pos_of_ne_zero hr0) (hc 0 (by rw [hk]; rfl))
        | false =>
          rw [if_pos (by rw [er, decide_eq_false hr0]; rfl)]
          exact Parse_fC30 _ _ _ _ _ _ _ _ w H1 H2 H3 rfl (Nat.pos_of_ne_zero hr0) (hc 30 (by rw [hk]; rfl))
      | false =>
        cases hk : ok (norm ⟨[], b, r⟩) with
        | true =>
          rw [if_neg (by simp)]
          exact Parse_fB0 _ _ _ _ _ _ _ _ w H1 H2 H3 rfl (hc 0 (by rw [hk]; rfl))
        | false =>
          rw [if_pos (by simp)]
          exact Parse_fB30 _ _ _ _ _ _ _ _ w H1 H2 H3 rfl (hc 30 (by rw [hk]; rfl))
end Go.Proofs.YthifpbaebbodoaaDoor.Jid
