/- Every text of at most 4000 bytes is parsed as the reference parses it; for every input the law answers true. -/
import Derived.Test.YthifpbaebbodoaaDoorPx2
import Derived.Test.YthifpbaebbodoaaDoorRbP
namespace Go.Proofs.YthifpbaebbodoaaDoor.Pure
open Go.RowKit Go.Proofs.YthifpbaebbodoaaDoor.Px Go.Proofs.YthifpbaebbodoaaDoor.F

theorem JidParses : wharflaw03_JidParses.Pure := by
  intro s hs
  unfold wharflaw03_JidParses.f
  by_cases hn : (s.size : Int) > 4000
  · rw [if_pos hn]; rfl
  · have hj : s.size ≤ jl := by unfold jl; omega
    rw [if_neg hn]
    unfold jid_Parse.f wharfref03_Parse.f
    simp only [if_pos hj]
    simp [wharflaw03_num.f, wharflaw03_live.f]
end Go.Proofs.YthifpbaebbodoaaDoor.Pure
