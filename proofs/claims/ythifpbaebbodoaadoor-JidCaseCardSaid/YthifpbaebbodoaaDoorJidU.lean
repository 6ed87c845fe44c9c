/- wharflaw03.JidCase: joined. -/
import Derived.Test.YthifpbaebbodoaaDoorJidT
set_option linter.unusedVariables false
set_option linter.unusedSimpArgs false
namespace Go.Proofs.YthifpbaebbodoaaDoor.Jid
open Go.RowKit GlyP Gly Strs JidP

theorem parseBad (s : ByteArray) (h : parse s.data.toList = none) (hs : s.size ≤ 68719476736) : ParseSays s ⟨#[]⟩ ⟨#[]⟩ ⟨#[]⟩ 30 := Lib.hid fun w => by
  have hp := Parse_any s hs w
  unfold parseV at hp
  rw [h] at hp
  exact hp
theorem parseGood (s : ByteArray) (j : J) (h : parse s.data.toList = some j) (hs : s.size ≤ 68719476736) : ParseSays s ⟨j.n.toArray⟩ ⟨j.d.toArray⟩ ⟨j.r.toArray⟩ 0 :=
  parseSays _ _ _ s h hs
theorem letter (c : UInt8) (h1 : ¬ ((low c).toNat : Int) < 97) (h2 : ¬ (122 : Int) < ((low c).toNat : Int)) : low c = low (flip c) ∧ c ≠ flip c ∧ c ≠ 47 ∧ flip c ≠ 47 := by
  have h : ∀ n : Fin 256, ¬ ((low (UInt8.ofNat n.val)).toNat : Int) < 97 → ¬ (122 : Int) < ((low (UInt8.ofNat n.val)).toNat : Int) →
      low (UInt8.ofNat n.val) = low (flip (UInt8.ofNat n.val)) ∧ UInt8.ofNat n.val ≠ flip (UInt8.ofNat n.val) ∧ UInt8.ofNat n.val ≠ 47 ∧ flip (UInt8.ofNat n.val) ≠ 47 := by decide +kernel
  have hc : UInt8.ofNat c.toNat = c := by simp
  have := h ⟨c.toNat, c.toNat_lt⟩
  dsimp only at this
  rw [hc] at this
  exact this h1 h2

theorem JidCase_walk (s : ByteArray) (a : Int) (hs : Low s) (hw : (Lit.int .i64 a).wf = true) (w : World) :
    Calls Tryd.prog 6 #[.string s, .int .i64 a] w fun e w' => e = .returned (.bool true) ∧ Below w.heap.size w w' := by
  by_cases h0 : (4000 : Int) < (s.size : Int)
  · exact JidCase_a s a h0 w
  · by_cases h1 : a < 0
    · exact JidCase_b s a h0 h1 w
    · by_cases h2 : (s.size : Int) ≤ a
      · exact JidCase_c s a h0 h1 h2 w
      · obtain ⟨n, rfl⟩ : ∃ n : Nat, a = (n : Int) := ⟨a.toNat, by omega⟩
        have hn : n < s.size := by omega
        obtain ⟨F, hF⟩ : ∃ F : ByteArray, F = ⟨(s.data.toList.map low).toArray⟩ := ⟨_, rfl⟩
        have hFs : F.size = s.size := by rw [hF, size_mk, List.length_map, U.len_data]
        have hnF : n < F.size := by omega
        have hFn : F[n] = low s[n] := by
          subst hF
          show ((s.data.toList.map low).toArray)[n]'_ = low s[n]
          rw [List.getElem_toArray, List.getElem_map]; rfl
        have HF : FoldSays s F := Lib.hid fun w => by rw [hF]; exact RFold_any s (by omega) w
        by_cases h3 : (F[n].toNat : Int) < 97
        · exact JidCase_d s F n h0 hn hnF HF h3 w
        · by_cases h4 : (122 : Int) < (F[n].toNat : Int)
          · exact JidCase_e s F n h0 hn hnF HF h3 h4 w
          · obtain ⟨l1, l2, l3, l4⟩ := letter s[n] (by rw [← hFn]; exact h3) (by rw [← hFn]; exact h4)
            have hL : s.data.toList = s.data.toList.take n ++ s[n] :: s.data.toList.drop (n + 1) := by
              rw [← U.u8_at s n hn, List.take_append_drop]
            have hM : s.data.toList.set n (flip s[n]) = s.data.toList.take n ++ flip s[n] :: s.data.toList.drop (n + 1) := by
              rw [List.set_eq_take_append_cons_drop, if_pos (by rw [U.len_data]; exact hn)]
            obtain ⟨p1, p2⟩ := parse_case (s.data.toList.take n) (s.data.toList.drop (n + 1)) s[n] (flip s[n]) l1 l2 ⟨l3, l4⟩
            rw [← hL, ← hM] at p1 p2
            have hts : (⟨(s.data.toList.set n (flip s[n])).toArray⟩ : ByteArray).size ≤ 68719476736 := by rw [size_mk, List.length_set, U.len_data]; omega
            cases hb : (s.data.toList.take n).contains 47 with
            | false =>
              have e := p1 hb
              cases hp : parse s.data.toList with
              | none => exact JidCase_f s F n h0 hn hnF HF h3 h4 _ _ _ _ _ _ (parseBad s hp (by omega)) (parseBad _ (by rw [← hp]; exact e.symm) hts) w
              | some j => exact JidCase_g s F n h0 hn hnF HF h3 h4 _ _ _ _ _ _ (parseGood s j hp (by omega)) (parseGood _ j (by rw [← hp]; exact e.symm) hts) (Lib.hid hb) rfl rfl rfl w
            | true =>
              obtain ⟨e1, e2⟩ := p2 hb
              cases hp : parse s.data.toList with
              | none =>
                rw [hp] at e1
                have hq : parse (s.data.toList.set n (flip s[n])) = none := by
                  cases hq : parse (s.data.toList.set n (flip s[n])) with
                  | none => rfl
                  | some k => rw [hq] at e1; cases e1
                exact JidCase_f s F n h0 hn hnF HF h3 h4 _ _ _ _ _ _ (parseBad s hp (by omega)) (parseBad _ hq hts) w
              | some j =>
                rw [hp] at e1
                obtain ⟨k, hq⟩ : ∃ k, parse (s.data.toList.set n (flip s[n])) = some k := by
                  cases hq : parse (s.data.toList.set n (flip s[n])) with
                  | none => rw [hq] at e1; cases e1
                  | some k => exact ⟨k, rfl⟩
                have hne := e2 j k hp hq
                obtain ⟨m1, m2⟩ := parse_case_nd (s.data.toList.take n) (s.data.toList.drop (n + 1)) s[n] (flip s[n]) l1 j k (by rw [← hL]; exact hp) (by rw [← hM]; exact hq)
                exact JidCase_h s F n h0 hn hnF HF h3 h4 _ _ _ _ _ _ (parseGood s j hp (by omega)) (parseGood _ k hq hts) (Lib.hid hb) (by rw [toList_mk, toList_mk, m1]) (by rw [toList_mk, toList_mk, m2]) (by rw [toList_mk, toList_mk]; exact hne) w
end Go.Proofs.YthifpbaebbodoaaDoor.Jid
