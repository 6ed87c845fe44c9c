/- Contracts of functions of this translation, and what they come to; what is not used is left out. -/
import Derived.Test.YtpjkbamkaicoiaaDoorZg2p1
import Derived.Test.YtpjkbamkaicoiaaDoorZg3
import Derived.Test.YtpjkbamkaicoiaaDoorZg5
import Derived.Test.YtpjkbamkaicoiaaDoorZBox
import Derived.Test.YtpjkbamkaicoiaaDoorZCls
import Derived.Test.YtpjkbamkaicoiaaDoorZUtil
import Derived.Test.YtpjkbamkaicoiaaDoorZg4
import Derived.Test.YtpjkbamkaicoiaaDoorZg2p0
import Derived.Test.YtpjkbamkaicoiaaDoorZSesB
import Derived.Test.YtpjkbamkaicoiaaDoorZSesE
import Derived.Test.YtpjkbamkaicoiaaDoorZg1
import Derived.Test.YtpjkbamkaicoiaaDoorZSoft
import Derived.Test.YtpjkbamkaicoiaaDoorZHanS
import Derived.Test.YtpjkbamkaicoiaaDoorZHanR
import Derived.Test.YtpjkbamkaicoiaaDoorZHanQ
import Derived.Test.YtpjkbamkaicoiaaDoorZRaQ
import Derived.Test.YtpjkbamkaicoiaaDoorZRefJ
import Derived.Test.YtpjkbamkaicoiaaDoorZRefF
import Derived.Test.YtpjkbamkaicoiaaDoorZGlyA
import Derived.Test.YtpjkbamkaicoiaaDoorZGlyP
import Derived.Test.YtpjkbamkaicoiaaDoorZJidP
import Derived.Test.YtpjkbamkaicoiaaDoorZStrs
import Derived.Test.YtpjkbamkaicoiaaDoorZShelf
import Derived.Test.YtpjkbamkaicoiaaDoorZRaP
import Derived.Test.YtpjkbamkaicoiaaDoorZRa2
import Derived.Test.YtpjkbamkaicoiaaDoorZRa1
import Derived.Test.YtpjkbamkaicoiaaDoorZRa0
import Derived.Test.YtpjkbamkaicoiaaDoorZg0
import Derived.Test.YtpjkbamkaicoiaaDoorZHanP
import Derived.Test.YtpjkbamkaicoiaaDoorZEscB
import Derived.Test.YtpjkbamkaicoiaaDoorZEscA
import Derived.Test.YtpjkbamkaicoiaaDoorZEscP
import Derived.Test.YtpjkbamkaicoiaaDoorZBld
import Derived.Test.YtpjkbamkaicoiaaDoorZHanA
import Derived.Test.YtpjkbamkaicoiaaDoorZRep
import Derived.Test.YtpjkbamkaicoiaaDoorZRc3
import Derived.Test.YtpjkbamkaicoiaaDoorZRc2
import Derived.Test.YtpjkbamkaicoiaaDoorZRc1
import Derived.Test.YtpjkbamkaicoiaaDoorZRc0
import Derived.Test.YtpjkbamkaicoiaaDoorZHanF

section
/- wharflaw15.SessionComes. -/
set_option linter.unusedVariables false
set_option linter.unusedSimpArgs false
namespace Go.Proofs.YtpjkbamkaicoiaaDoor.Ses
open Go.RowKit U
theorem SessionComes_walk (bn bp : ByteArray) (bs bt bc : Int) (ck co : ByteArray) (cd : Int) (z1 : bn.size ≤ 140737488351232) (z2 : bp.size ≤ 140737488351232) (z3 : ck.size ≤ 140737488351232) (z4 : co.size ≤ 140737488351232) (hw : (Lit.int .i64 cd).wf = true) (w : World) :
    Calls Tryd.prog 3 #[.agg #[.string bn, .string bp, .int .i64 bs, .int .i64 bt, .int .i64 bc], .string ck, .string co, .int .i64 cd] w fun e w' => e = .returned (.bool true) ∧ Below w.heap.size w w' := by
  by_cases hn : bn.size + bp.size + ck.size + co.size ≤ 12000
  · rcases start_two bn bp bs bt bc (by omega) (by omega) with h | hST
    · obtain ⟨D, _, hD, hR⟩ := salteds ck bp (by omega) (by omega)
      have hS := same_yes bn bn (by omega) (by omega) rfl
      by_cases hc : cd = 0
      · subst hc
        exact (Comes_in bn bp bs bt bc ck co hn h.hp h.hl h.s1 h.s2 h.c1 h.c2 h.t1 h.t2 h.hG h.hC D hD hR hS live_any w).mono fun e w' h => ⟨h.1, h.2.low⟩
      · exact (Comes_bad bn bp bs bt bc ck co cd hc hn h.hp h.hl h.s1 h.s2 h.c1 h.c2 h.t1 h.t2 h.hG h.hC D hD hR hS live_any w).mono fun e w' h => ⟨h.1, h.2.low⟩
    · exact (Comes_no bn bp bs bt bc ck co cd hn hST live_any w).mono fun e w' h => ⟨h.1, h.2.low⟩
  · exact (Comes_long bn bp bs bt bc ck co cd z1 z2 z3 z4 hn live_any w).mono fun e w' h => ⟨h.1, h.2.low⟩
end Go.Proofs.YtpjkbamkaicoiaaDoor.Ses
end
