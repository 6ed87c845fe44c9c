/- Every text of at most 3000 bytes is escaped, unescaped and judged as the reference does; for every input the law answers true. -/
import Derived.Test.YtjegeohghefdiaaEscM
namespace Go.Proofs.Ytjegeohghefdiaa.Pure
open Go.RowKit Go.Proofs.Ytjegeohghefdiaa.Px Go.Proofs.Ytjegeohghefdiaa.F EscP Esc EscL EscM

theorem EscapeTells : wharflaw02_EscapeTells.Pure := by
  intro s hs
  unfold wharflaw02_EscapeTells.f
  by_cases hn : (s.size : Int) > 3000
  · rw [if_pos hn, live_holds]; rfl
  · rw [if_neg hn, resc_same, runesc_same, ris_same]
    cases hb : bad s.data.toList with
    | true =>
      rw [esc_bad s (by omega) hb, unesc s (by omega), is_ok s (by omega), live_holds]
      simp [num_f]
    | false =>
      rw [esc_good s (by omega) hb, unesc s (by omega), is_ok s (by omega), live_holds]
      simp [num_f]
end Go.Proofs.Ytjegeohghefdiaa.Pure
