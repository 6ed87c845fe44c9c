/- The plain form of a name of at most 3000 bytes that may be may be, is its own plain form, and has no blanks and no great letters; for every input the law answers true. -/
import Derived.Test.YtnaimienfgpgmaaDoorPd1
import Derived.Test.YtnaimienfgpgmaaDoorZ0
import Derived.Test.YtnaimienfgpgmaaDoorZ1
import Derived.Test.YtnaimienfgpgmaaDoorZ2
import Derived.Test.YtnaimienfgpgmaaDoorZ3
set_option linter.unusedVariables false
set_option linter.unusedSimpArgs false
namespace Go.Proofs.YtnaimienfgpgmaaDoor.Pure
open Go.RowKit Go.Proofs.YtnaimienfgpgmaaDoor.Pd Go.Proofs.YtnaimienfgpgmaaDoor.F HanP HanQ Han Go.Proofs.YtnaimienfgpgmaaDoorW.PrintWords

theorem plain_loop (s : ByteArray) (hs : s.size ≤ 3000) : ∀ (d i : Nat), i + d = (normB s).size → Ev (fun k => wharflaw04_HandlePlain.l0 k s (normB s) (i : Int)) true := by
  have hz := normB_size s
  intro d
  induction d with
  | zero =>
    intro i hi
    refine Ev.step (fun k => ?_) (Ev.now _)
    simp only [wharflaw04_HandlePlain.l0]
    have a1 : s.size ≤ hm := by unfold hm; omega
    have a2 : (normB s).size ≤ hm := by unfold hm; omega
    have a3 := hm_hl a1
    have a4 := hm_hl a2
    have e1 : ((normB (normB s)).toList = (normB s).toList) = True := by
      rw [Lib.toList_data, Lib.toList_data]
      exact eq_true (norm_norm _)
    have e2 : (norm s.data.toList == norm (normB s).data.toList) = true := by rw [beq_iff_eq]; exact (norm_norm _).symm
    rw [if_neg (by omega)]
    unfold handle_Norm.f handle_Same.f handle_Check.f wharflaw04_num.f wharflaw04_live.f
    simp only [if_pos a4, if_pos (show s.size ≤ hl ∧ (normB s).size ≤ hl from ⟨a3, a4⟩), if_pos a1, if_pos a2, Option.bind_some, e1, e2, if_true]
    cases hn : isName s.data.toList with
    | false => simp
    | true =>
      have : isName (normB s).data.toList = true := isName_norm _ hn
      rw [this]; simp
  | succ d ih =>
    intro i hi
    have hlt : i < (normB s).size := by omega
    have hm1 : (normB s)[i] ∈ norm s.data.toList := by
      have : (normB s)[i] = (norm s.data.toList)[i]'(by rw [normB_len]; exact hlt) := rfl
      rw [this]; exact List.getElem_mem _
    have hx := norm_mem _ _ hm1
    refine Ev.step (fun k => ?_) (ih (i + 1) (by omega))
    have h32 : ¬ (((normB s)[i].toNat : Int) = 32) := by rw [i32]; exact hx.1
    simp only [wharflaw04_HandlePlain.l0]
    rw [if_pos (by omega), if_pos (by omega), RaP.bt_get (normB s) i hlt _ rfl, if_neg h32, wsucc i (by omega)]
    have h65 := hx.2
    rw [UInt8.le_iff_toNat_le, UInt8.le_iff_toNat_le] at h65
    simp at h65
    by_cases h : ((normB s)[i].toNat : Int) ≥ 65
    · rw [if_pos h, if_neg (by omega)]
    · rw [if_neg h]
theorem HandlePlain : wharflaw04_HandlePlain.Pure := by
  intro s hs
  by_cases hn : (s.size : Int) > 3000
  · refine ⟨0, ?_⟩
    unfold wharflaw04_HandlePlain.f
    rw [if_pos hn]; rfl
  · refine Ev.rounds (g := fun k => wharflaw04_HandlePlain.f k s) ?_
    unfold wharflaw04_HandlePlain.f handle_Norm.f
    simp only [if_neg hn, if_pos (show s.size ≤ hl by unfold hl; omega), Option.bind_some]
    exact plain_loop s (by omega) (normB s).size 0 (by omega)
end Go.Proofs.YtnaimienfgpgmaaDoor.Pure
namespace Go.Proofs.YtnaimienfgpgmaaDoor.HanW
open Go.RowKit
theorem HandlePlain_walk (s : ByteArray) (hs : s.size ≤ 140737488351232) (w : World) :
    Calls Tryd.prog 7 #[.string s] w fun e w' => e = .returned (.bool true) ∧ Below w.heap.size w w' :=
  Pd.wharflaw04_HandlePlain.walk Pure.HandlePlain s w hs
end Go.Proofs.YtnaimienfgpgmaaDoor.HanW
