/- Unlike texts are escaped to unlike ones; for every input the law answers true. -/
import Derived.Test.YtjegeohghefdiaaEscM
namespace Go.Proofs.Ytjegeohghefdiaa.Pure
open Go.RowKit Go.Proofs.Ytjegeohghefdiaa.Px Go.Proofs.Ytjegeohghefdiaa.F Go.Proofs.YtjegeohghefdiaaW.PrintWords EscP Esc EscL EscM

theorem EscapeApart : wharflaw02_EscapeApart.Pure := by
  intro s t hs ht
  unfold wharflaw02_EscapeApart.f
  have hw : wrap64 ((s.size : Int) + (t.size : Int)) = (s.size : Int) + (t.size : Int) := by unfold wrap64; omega
  rw [hw]
  by_cases hn : (s.size : Int) + (t.size : Int) > 3000
  · rw [if_pos hn, live_holds]; rfl
  · rw [if_neg hn]
    cases hb : bad s.data.toList with
    | true =>
      cases hc : bad t.data.toList with
      | true =>
        rw [esc_bad s (by omega) hb, esc_bad t (by omega) hc, live_holds]
        simp only [num_f, Option.bind_some]
        rw [if_neg (by unfold wrap64; decide)]
      | false =>
        rw [esc_bad s (by omega) hb, esc_good t (by omega) hc, live_holds]
        simp only [num_f, Option.bind_some]
        rw [if_neg (by unfold wrap64; decide)]
    | false =>
      cases hc : bad t.data.toList with
      | true =>
        rw [esc_good s (by omega) hb, esc_bad t (by omega) hc, live_holds]
        simp only [num_f, Option.bind_some]
        rw [if_neg (by unfold wrap64; decide)]
      | false =>
        rw [esc_good s (by omega) hb, esc_good t (by omega) hc, live_holds]
        simp only [num_f, Option.bind_some]
        rw [if_pos (by unfold wrap64; decide), if_pos ?_]
        rw [beq_iff_eq, toList_mk, toList_mk, Lib.toList_data, Lib.toList_data]
        rw [Bool.eq_iff_iff, beq_iff_eq, beq_iff_eq]
        constructor
        · intro h
          rw [← un_escG _ hb, h, un_escG _ hc]
        · intro h; rw [h]
end Go.Proofs.Ytjegeohghefdiaa.Pure
