/- Two names of at most 3000 bytes have one address just if they are the same; for every input the law answers true. -/
import Derived.Test.YtnaimienfgpgmaaDoorPc2
import Derived.Test.YtnaimienfgpgmaaDoorZ0
import Derived.Test.YtnaimienfgpgmaaDoorZ1
import Derived.Test.YtnaimienfgpgmaaDoorZ2
import Derived.Test.YtnaimienfgpgmaaDoorZ3
set_option linter.unusedVariables false
set_option linter.unusedSimpArgs false
namespace Go.Proofs.YtnaimienfgpgmaaDoor.Pure
open Go.RowKit Go.Proofs.YtnaimienfgpgmaaDoor.Pc Go.Proofs.YtnaimienfgpgmaaDoor.F HanP HanQ Han EscP

theorem HandleApart : wharflaw04_HandleApart.Pure := by
  intro s t d hs ht hd
  unfold wharflaw04_HandleApart.f
  rw [RaP.w64 ((s.size : Int) + (t.size : Int)) (by omega) (by omega), RaP.w64 ((s.size : Int) + (t.size : Int) + (d.size : Int)) (by omega) (by omega)]
  by_cases hn : (s.size : Int) + (t.size : Int) + (d.size : Int) > 3000
  · rw [if_pos hn]; rfl
  · have a1 : s.size ≤ hm := by unfold hm; omega
    have a2 : t.size ≤ hm := by unfold hm; omega
    have a5 : d.size ≤ hm := by unfold hm; omega
    have a3 := hm_hl a1
    have a4 := hm_hl a2
    rw [if_neg hn]
    unfold handle_ToJid.f handle_Same.f wharflaw04_num.f wharflaw04_live.f
    simp only [if_pos (show s.size ≤ hm ∧ d.size ≤ hm from ⟨a1, a5⟩), if_pos (show t.size ≤ hm ∧ d.size ≤ hm from ⟨a2, a5⟩), if_pos (show s.size ≤ hl ∧ t.size ≤ hl from ⟨a3, a4⟩), Option.bind_some]
    unfold toV bad4
    cases hj : hasJ s d with
    | false => cases hk : hasJ t d <;> simp [wrap64]
    | true =>
      cases hk : hasJ t d with
      | false => simp [wrap64]
      | true =>
        have n1 : isName s.data.toList = true := by unfold hasJ at hj; rw [Bool.and_eq_true] at hj; exact hj.1
        have n2 : isName t.data.toList = true := by unfold hasJ at hk; rw [Bool.and_eq_true] at hk; exact hk.1
        have e : ((⟨(escG (norm s.data.toList)).toArray⟩ : ByteArray).toList == (⟨(escG (norm t.data.toList)).toArray⟩ : ByteArray).toList) = (norm s.data.toList == norm t.data.toList) := by
          rw [Lib.toList_data, Lib.toList_data]
          show (escG (norm s.data.toList) == escG (norm t.data.toList)) = _
          rw [Bool.eq_iff_iff, beq_iff_eq, beq_iff_eq]
          constructor
          · intro h
            rw [← EscL.un_escG _ (isName_bad _ n1), h, EscL.un_escG _ (isName_bad _ n2)]
          · intro h; rw [h]
        rw [Lib.toList_data, Lib.toList_data] at e
        have e' : (escG (norm s.data.toList) == escG (norm t.data.toList)) = (norm s.data.toList == norm t.data.toList) := e
        simp [wrap64, e']
end Go.Proofs.YtnaimienfgpgmaaDoor.Pure
namespace Go.Proofs.YtnaimienfgpgmaaDoor.HanW
open Go.RowKit
theorem HandleApart_walk (s t d : ByteArray) (hs : s.size ≤ 140737488351232) (ht : t.size ≤ 140737488351232) (hd : d.size ≤ 140737488351232) (w : World) :
    Calls Tryd.prog 6 #[.string s, .string t, .string d] w fun e w' => e = .returned (.bool true) ∧ Below w.heap.size w w' :=
  Pc.wharflaw04_HandleApart.walk Pure.HandleApart s t d w hs ht hd
end Go.Proofs.YtnaimienfgpgmaaDoor.HanW
