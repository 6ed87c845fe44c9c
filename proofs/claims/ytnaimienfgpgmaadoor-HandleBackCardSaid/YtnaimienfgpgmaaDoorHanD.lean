/- wharflaw04.HandleBack: what its walk needs. -/
import Derived.Test.YtnaimienfgpgmaaDoorHanB
set_option linter.unusedVariables false
set_option linter.unusedSimpArgs false
namespace Go.Proofs.YtnaimienfgpgmaaDoor.HanL
open Go.RowKit F Han HanP HanQ EscP Jid

theorem extract_le (s : ByteArray) (i j : Nat) : (s.extract i j).size ≤ s.size := by
  rw [← U.len_data, ← U.len_data, Lib.extract_data]; simp; omega
theorem norm_blank (s : ByteArray) (i : Nat) (h : i ≤ s.size) :
    norm ((s.extract 0 i ++ (⟨#[32]⟩ : ByteArray)) ++ s.extract i s.size).data.toList = norm s.data.toList := by
  rw [U.append_data, U.append_data, U.take_data, U.drop_data, norm_append, norm_append]
  conv => rhs; rw [← List.take_append_drop i s.data.toList, norm_append]
  rw [show norm (⟨#[32]⟩ : ByteArray).data.toList = [] from by decide]; simp
theorem HandleBack_walk (s d : ByteArray) (at_ : Int) (hs : s.size ≤ 140737488351232) (hd : d.size ≤ 140737488351232) (hat : (Lit.int .i64 at_).wf = true) (w : World) :
    Calls Tryd.prog 5 #[.string s, .string d, .int .i64 at_] w fun e w' => e = .returned (.bool true) ∧ Below w.heap.size w w' := by
  by_cases hb : (3000 : Int) < (s.size : Int) + (d.size : Int)
  · exact HandleBack_big s d at_ hb hs hd w
  · have a1 : s.size ≤ hm := by unfold hm; omega
    have a2 : d.size ≤ hm := by unfold hm; omega
    cases hj : hasJ s d with
    | false =>
      have hv : toV s d = bad4 := by unfold toV; rw [hj]; rfl
      exact HandleBack_none s d at_ hb (Lib.hid fun w => handle_ToJid.calls s d _ _ _ _ w (by unfold handle_ToJid.f; rw [if_pos ⟨a1, a2⟩, hv]; rfl)) w
    | true =>
      have hv : toV s d = (⟨(escG (norm s.data.toList)).toArray⟩, d, ⟨#[]⟩, 0) := by unfold toV; rw [hj]; rfl
      have n1 : isName s.data.toList = true := by unfold hasJ at hj; rw [Bool.and_eq_true] at hj; exact hj.1
      have hu : un (⟨(escG (norm s.data.toList)).toArray⟩ : ByteArray).data.toList = norm s.data.toList := EscL.un_escG _ (isName_bad _ n1)
      have hf : fromV (⟨(escG (norm s.data.toList)).toArray⟩ : ByteArray) d d = (normB s, 0) := by
        unfold fromV fromB
        rw [hu, isName_norm _ n1, norm_norm]
        simp
        rfl
      have hel : (⟨(escG (norm s.data.toList)).toArray⟩ : ByteArray).size ≤ hm := by
        have h1 := escG_le (norm s.data.toList)
        have h2 := norm_len s.data.toList
        rw [U.len_data] at h2
        rw [size_of _ _ rfl]
        show (escG (norm s.data.toList)).length ≤ _
        unfold hm; omega
      have HJ : SayJ s d (⟨(escG (norm s.data.toList)).toArray⟩ : ByteArray) d ⟨#[]⟩ 0 := Lib.hid fun w => handle_ToJid.calls s d _ _ _ _ w (by unfold handle_ToJid.f; rw [if_pos ⟨a1, a2⟩, hv])
      have HF : SayF (⟨(escG (norm s.data.toList)).toArray⟩ : ByteArray) d ⟨#[]⟩ d (normB s) 0 := Lib.hid fun w => handle_FromJid.calls _ d _ d _ _ w (by unfold handle_FromJid.f; rw [if_pos hel, hf])
      have HN : SayS 12 #[.string s] (normB s) := Lib.hid fun w => handle_Norm.calls s _ w (by unfold handle_Norm.f; rw [if_pos (hm_hl a1)])
      by_cases h1 : at_ < 1
      · exact HandleBack_c1 s d _ _ at_ hb h1 HJ HF HN w
      · by_cases h2 : (s.size : Int) ≤ at_
        · exact HandleBack_c2 s d _ _ at_ hb h1 h2 HJ HF HN w
        · by_cases h3 : (16 : Int) ≤ (s.size : Int)
          · exact HandleBack_c3 s d _ _ at_ hb h1 (by omega) h3 HJ HF HN w
          · obtain ⟨i, hi⟩ : ∃ i : Nat, at_ = (i : Int) := ⟨at_.toNat, by omega⟩
            have hnb := norm_blank s i (by omega)
            obtain ⟨T, hT⟩ : ∃ T : ByteArray, T = (s.extract 0 i ++ (⟨#[32]⟩ : ByteArray)) ++ s.extract i s.size := ⟨_, rfl⟩
            have z1 : (s.extract 0 i).size ≤ s.size := extract_le _ _ _
            have z2 : (s.extract i s.size).size ≤ s.size := extract_le _ _ _
            have z3 : (s.extract 0 i ++ (⟨#[32]⟩ : ByteArray)).size = (s.extract 0 i).size + 1 := by rw [ByteArray.size_append]; rfl
            have zT : T.size ≤ hm := by rw [hT, ByteArray.size_append, z3]; unfold hm; omega
            rw [← hT] at hnb
            cases hk : isName T.data.toList with
            | false =>
              exact HandleBack_c4 s d _ _ at_ hb i hi (by omega) (by omega) (by omega) T (Lib.hid hT) HJ HF HN (Lib.hid fun w => handle_Check.calls T _ w (by unfold handle_Check.f; rw [if_pos zT, hk]; rfl)) w
            | true =>
              have hjT : hasJ T d = true := by
                unfold hasJ at hj ⊢
                rw [Bool.and_eq_true] at hj ⊢
                refine ⟨hk, ?_⟩
                rw [hnb]; exact hj.2
              have htT : toV T d = (⟨(escG (norm s.data.toList)).toArray⟩, d, ⟨#[]⟩, 0) := by unfold toV; rw [hjT, hnb]; rfl
              exact HandleBack_c5 s d _ _ at_ hb i hi (by omega) (by omega) (by omega) T (Lib.hid hT) HJ HF HN (Lib.hid fun w => handle_Check.calls T _ w (by unfold handle_Check.f; rw [if_pos zT, hk]; rfl))
                (Lib.hid fun w => handle_ToJid.calls T d _ _ _ _ w (by unfold handle_ToJid.f; rw [if_pos ⟨zT, a2⟩, htT]))
                (Lib.hid fun w => handle_Same.calls s T _ w (by unfold handle_Same.f; rw [if_pos ⟨hm_hl a1, hm_hl zT⟩, hnb, beq_self_eq_true])) w
end Go.Proofs.YtnaimienfgpgmaaDoor.HanL
