/- Contracts of functions of this translation, and what they come to; what is not used is left out. -/
import Derived.Test.YtofdiilfedjhkaaDoorKSubV1
import Derived.Test.YtofdiilfedjhkaaDoorKHanA
import Derived.Test.YtofdiilfedjhkaaDoorKGlyA
import Derived.Test.YtofdiilfedjhkaaDoorKGlyP
import Derived.Test.YtofdiilfedjhkaaDoorKUtil
import Derived.Test.YtofdiilfedjhkaaDoorKRep
import Derived.Test.YtofdiilfedjhkaaDoorKStrs
import Derived.Test.YtofdiilfedjhkaaDoorKShelf
import Derived.Test.YtofdiilfedjhkaaDoorKBld
import Derived.Test.YtofdiilfedjhkaaDoorKSubV0
import Derived.Test.YtofdiilfedjhkaaDoorKg7p1
import Derived.Test.YtofdiilfedjhkaaDoorKg7p0
import Derived.Test.YtofdiilfedjhkaaDoorKg4
import Derived.Test.YtofdiilfedjhkaaDoorKg6
import Derived.Test.YtofdiilfedjhkaaDoorKBox
import Derived.Test.YtofdiilfedjhkaaDoorKCls
import Derived.Test.YtofdiilfedjhkaaDoorKg5

section
/- What the machine knows in a round of SubsSeen. (Printed by gen_subv.py.) -/
set_option linter.unusedVariables false
set_option linter.unusedSimpArgs false
set_option maxRecDepth 100000
namespace Go.Proofs.YtofdiilfedjhkaaDoor.SubW
open Go.RowKit Go.Proofs.YtofdiilfedjhkaaDoor.E Go.Proofs.YtofdiilfedjhkaaDoor.Ses
theorem ac {p : Prop} {l : List Prop} (h : p) (k : All l) : All (p :: l) := all_cons h k
def c0 : Nat × Ora := (0, oc)
def b0 : Nat × Ora := (0, ob)
def c1 : Nat × Ora := (1, oc)
def b1 : Nat × Ora := (1, ob)
structure KnR (w0 : World) (A : Option Addr) (L C : Nat) (ad : Addr) (k : Nat) (av : Nat → ActV) (n : ByteArray) : Prop where
  klen : ∀ Fr, Fr = protX w0 (EX A L C ad k (av k)) → PureC Tryd.prog Fr (BIG + (4 * 48 + 2)) #[.chan (some 64), .int .i64 (Int.ofNat 3)] (.int .i64 (L : Int))
  kidx : ∀ Fr, Fr = protX w0 (EX A L C ad k (av k)) → PureC Tryd.prog Fr (BIG + (4 * 48 + 1)) #[.chan (some 64), .int .i64 (k : Int)] (.chan (some 65))
  kact : ∀ Fr, Fr = protX w0 (EX A L C ad k (av k)) → PureC Tryd.prog Fr (BIG + (4 * 54 + 0)) #[.chan (some 65)] (.agg ⟨actM (av k)⟩)
  kfK : ∀ Fr, Fr = protX w0 (EX A L C ad k (av k)) → PureC Tryd.prog Fr (BIG + (4 * 54 + 3)) #[.chan (some 65), .int .i64 (Int.ofNat 0)] (.chan (some 68))
  kfX : ∀ Fr, Fr = protX w0 (EX A L C ad k (av k)) → PureC Tryd.prog Fr (BIG + (4 * 54 + 3)) #[.chan (some 65), .int .i64 (Int.ofNat 6)] (.chan (some 69))
  kfA : ∀ Fr, Fr = protX w0 (EX A L C ad k (av k)) → PureC Tryd.prog Fr (BIG + (4 * 52 + 3)) #[.chan (some 69), .int .i64 (Int.ofNat 5)] (.chan (some 70))
  kkind : ∀ Fr, Fr = protX w0 (EX A L C ad k (av k)) → PureC Tryd.prog Fr (BIG + (4 * 3 + 0)) #[.chan (some 68)] (.int .i64 (av k).kd)
  kawait : ∀ Fr, Fr = protX w0 (EX A L C ad k (av k)) → PureC Tryd.prog Fr (BIG + (4 * 4 + 0)) #[.chan (some 70)] (.bool (av k).xb)
  hn : ∀ Fr, PureC Tryd.prog Fr 17 #[.string n, .string (av k).nn] (.bool ((Han.normB n).toList == (Han.normB (av k).nn).toList))
  hw : ∀ Fr, PureC Tryd.prog Fr 17 #[.string n, .string (av k).wn] (.bool ((Han.normB n).toList == (Han.normB (av k).wn).toList))
  hx : ∀ Fr, PureC Tryd.prog Fr 17 #[.string n, .string (av k).xn] (.bool ((Han.normB n).toList == (Han.normB (av k).xn).toList))
theorem same_is (a b : ByteArray) (ha : a.size ≤ 1000000) (hb : b.size ≤ 1000000) (Fr : Prot) : PureC Tryd.prog Fr 17 #[.string a, .string b] (.bool ((Han.normB a).toList == (Han.normB b).toList)) := by
  refine pureC_of (fun w => ?_) rfl (by rfl) Fr
  refine (Han.Same_any a b (by omega) (by omega) w).mono fun e w' h => ⟨?_, h.2⟩
  rw [h.1, Lib.toList_data, Lib.toList_data]; rfl
theorem knows {w0 : World} {L C : Nat} {ad : Addr} {k : Nat} {av : Nat → ActV} {n : ByteArray} (hk : k < L) (ha : ActAt w0 ad k (av k)) (z1 : n.size ≤ 8000) (z2 : wt (av k) ≤ 8000) : KnR w0 (some ad) L C ad k av n := by
  unfold wt at z2
  refine ⟨?_, ?_, ?_, ?_, ?_, ?_, ?_, ?_, same_is _ _ (by omega) (by omega), same_is _ _ (by omega) (by omega), same_is _ _ (by omega) (by omega)⟩
  · rintro Fr rfl; exact know_len (some ad) L C _ rfl w0
  · rintro Fr rfl; exact know_index hk
  · rintro Fr rfl; exact know_act ha
  · rintro Fr rfl; exact know_fK
  · rintro Fr rfl; exact know_fX
  · rintro Fr rfl; exact know_fA
  · rintro Fr rfl; exact know_kind ha
  · rintro Fr rfl; exact know_await ha
noncomputable def seenC : Code := (Tryd.f6.body).getD .skip
noncomputable def seenR : Code := subC [true, true, false, true, false, false] seenC
noncomputable def seenP : Code := subC [true, true, true] seenC
theorem seenB : Tryd.f6.body = some seenC := by kernel_rfl
theorem seenM : midC [true, true, false, true] seenC = .block 0 (.loop seenR) := by kernel_rfl
theorem seenPo (P : Program) (Q : Exit → Act → World → Prop) : wpPost P [true, true, false, true] seenC Q = fun a w => seenP.wp P Q a w := by kernel_rfl
def oTri (n : ByteArray) (tO pe aw fr as_ on : Bool) (st id : Int) : List (Nat × Nat × Blk) := [(72, 72, ⟨[.string n, .bool tO, .bool pe, .bool aw, .bool fr, .bool as_, .bool on, .int .i64 st, .int .i64 id], 23, false, false⟩)]
def oLive (k : Int) : List (Nat × Value) := [(1, .chan (some 64)), (2, .pointer (some ⟨72, 0, none⟩)), (5, .int .i64 k)]
end Go.Proofs.YtofdiilfedjhkaaDoor.SubW
end
