/- Every name's address, and every address's name, of at most 3000 bytes, is the reference's; for every input the law answers true. -/
import Derived.Test.YtnaimienfgpgmaaDoorPj2
import Derived.Test.YtnaimienfgpgmaaDoorZ0
import Derived.Test.YtnaimienfgpgmaaDoorZ1
import Derived.Test.YtnaimienfgpgmaaDoorZ2
import Derived.Test.YtnaimienfgpgmaaDoorZ3
set_option linter.unusedVariables false
set_option linter.unusedSimpArgs false
namespace Go.Proofs.YtnaimienfgpgmaaDoor.Pure
open Go.RowKit Go.Proofs.YtnaimienfgpgmaaDoor.Pj Go.Proofs.YtnaimienfgpgmaaDoor.F HanP HanQ Han

theorem HandleJids (s d n e r : ByteArray) (hs : s.size ≤ 140737488351232) (hd : d.size ≤ 140737488351232) (h1 : n.size ≤ 140737488351232) (h2 : e.size ≤ 140737488351232) (h3 : r.size ≤ 140737488351232) :
    wharflaw04_HandleJids.f s d n e r = some true := by
  unfold wharflaw04_HandleJids.f
  rw [RaP.w64 ((s.size : Int) + (d.size : Int)) (by omega) (by omega), RaP.w64 ((s.size : Int) + (d.size : Int) + (n.size : Int)) (by omega) (by omega), RaP.w64 ((s.size : Int) + (d.size : Int) + (n.size : Int) + (e.size : Int)) (by omega) (by omega), RaP.w64 ((s.size : Int) + (d.size : Int) + (n.size : Int) + (e.size : Int) + (r.size : Int)) (by omega) (by omega)]
  by_cases hn : (s.size : Int) + (d.size : Int) + (n.size : Int) + (e.size : Int) + (r.size : Int) > 3000
  · rw [if_pos hn]; rfl
  · have a1 : s.size ≤ hm := by unfold hm; omega
    have a2 : d.size ≤ hm := by unfold hm; omega
    have a3 : n.size ≤ hm := by unfold hm; omega
    rw [if_neg hn]
    unfold handle_ToJid.f wharfref04_ToJid.f handle_FromJid.f wharfref04_FromJid.f wharflaw04_num.f wharflaw04_live.f
    simp only [if_pos (show s.size ≤ hm ∧ d.size ≤ hm from ⟨a1, a2⟩), if_pos a3, Option.bind_some]
    simp
end Go.Proofs.YtnaimienfgpgmaaDoor.Pure
namespace Go.Proofs.YtnaimienfgpgmaaDoor.HanW
open Go.RowKit
theorem HandleJids_walk (s d n e r : ByteArray) (hs : s.size ≤ 140737488351232) (hd : d.size ≤ 140737488351232) (h1 : n.size ≤ 140737488351232) (h2 : e.size ≤ 140737488351232) (h3 : r.size ≤ 140737488351232) (w : World) :
    Calls Tryd.prog 4 #[.string s, .string d, .agg #[.string n, .string e, .string r]] w fun e w' => e = .returned (.bool true) ∧ Below w.heap.size w w' :=
  Pj.wharflaw04_HandleJids.calls s d n e r true w (Pure.HandleJids s d n e r hs hd h1 h2 h3)
end Go.Proofs.YtnaimienfgpgmaaDoor.HanW
