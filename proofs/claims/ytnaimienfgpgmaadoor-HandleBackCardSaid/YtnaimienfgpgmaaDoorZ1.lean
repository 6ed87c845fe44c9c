/- Contracts of functions of this translation, and what they come to: the texts that the laws of this seat lean on, one behind the other. -/
import Derived.Deep.RegionWith
import Derived.BigQuiet
import Derived.Deep.RegionHeld3
import Derived.Test.YtnaimienfgpgmaaDoorProg
import Derived.Below
import Derived.Deep.Draws
import Derived.Deep.AppendLies
import Derived.Maps.AppendAt
import Derived.OwnWalk
import Derived.Laws.BytesArg
import Derived.Laws.MakeOwn
import Derived.Laws.OwnMore
import Derived.Deep.OwnRows
import Derived.Tactics
import Derived.Lib.ConvBytes
import Derived.Laws.Slices
import Derived.WalkKit
import Derived.KernelRfl
import Derived.RowKit3
import Derived.Deep.LoopGhost
import Derived.Deep.QuietTactic
import Derived.WideLaws
import Derived.Deep.DeepCutAuto
import Derived.Deep.CutBlock
import Derived.Laws.Rows
import Derived.Lib.AppendStr
import Derived.ArgAppend
import Derived.Laws.IdiomCopy
import Derived.OrdersHeld
import Derived.Laws.BitsLemmas
import Derived.RowKit
import Derived.Test.YtnaimienfgpgmaaDoorWWords
import Derived.Test.YtnaimienfgpgmaaDoorWLast
import Derived.Test.YtnaimienfgpgmaaDoorWTab
import Derived.Test.YtnaimienfgpgmaaDoorWFour
import Derived.Test.YtnaimienfgpgmaaDoorWQPut
import Derived.Test.YtnaimienfgpgmaaDoorWApart
import Derived.Test.YtnaimienfgpgmaaDoorWArr
import Derived.Test.YtnaimienfgpgmaaDoorWZeros
import Derived.Test.YtnaimienfgpgmaaDoorWFoot
import Derived.Test.YtnaimienfgpgmaaDoorWKept
import Derived.Test.YtnaimienfgpgmaaDoorWShare
import Derived.Test.YtnaimienfgpgmaaDoorWN
import Derived.Test.YtnaimienfgpgmaaDoorWFootNe
import Derived.Test.YtnaimienfgpgmaaDoorWAt
import Derived.Test.YtnaimienfgpgmaaDoorWEqStruct
import Derived.Test.YtnaimienfgpgmaaDoorWRepsOne
import Derived.Test.YtnaimienfgpgmaaDoorWInv
import Derived.Test.YtnaimienfgpgmaaDoorWInvWords
import Derived.Test.YtnaimienfgpgmaaDoorWGuard
import Derived.Test.YtnaimienfgpgmaaDoorWNEv
import Derived.Test.YtnaimienfgpgmaaDoorWMore
import Derived.Test.YtnaimienfgpgmaaDoorZ0

/- What functions of this translation return, each a function of Lean and its contract; written by a program of the session. -/
namespace Go.Proofs.YtnaimienfgpgmaaDoor.Ra
open Go.RowKit Go.Proofs.YtnaimienfgpgmaaDoor.F Go.Proofs.YtnaimienfgpgmaaDoorW.PrintWords Go.Proofs.YtnaimienfgpgmaaDoorW.PrintLast Go.Proofs.YtnaimienfgpgmaaDoorW.PrintMore
attribute [local go_sem] max2_int min2_int max_two min_two max_three min_three max_four min_four   -- for this text's walks alone
set_option linter.unusedVariables false
set_option linter.unusedSimpArgs false

/-! ### wharfref01_Signs: function 64 -/
def wharfref01_Signs.l0 : Nat → ByteArray → List Int → Option (List Int × Bool)
  | 0, _, _ => none
  | k + 1, x0, x4 => if x0.toList = ([] : List UInt8) then (some (x4, true)) else ((wharfref01_First.f k x0).bind fun bt116 => (if bt116.2.2 = 0 then ((wharfref01_Plain.f bt116.1).bind fun t119 => (if t119 = true then (if x4.length < 17592186044416 then (if 0 ≤ bt116.2.1 then (if bt116.2.1 ≤ (x0.size : Int) then (wharfref01_Signs.l0 k (x0.extract (bt116.2.1 : Int).toNat x0.size) (x4 ++ [bt116.1])) else (none)) else (none)) else (none)) else (some (([] : List Int), false)))) else (some (([] : List Int), false))))
def wharfref01_Signs.f (k : Nat) (a0 : ByteArray) : Option (List Int × Bool) := wharfref01_Signs.l0 k a0 ([] : List Int)
theorem wharfref01_Signs.mono_l : ∀ k, (∀ y0 y1, LeO (wharfref01_Signs.l0 k y0 y1) (wharfref01_Signs.l0 (k + 1) y0 y1))
  | 0 => fun _ _ r h => by simp [wharfref01_Signs.l0] at h
  | k + 1 => by
    have ih0 := wharfref01_Signs.mono_l k
    · intro y0 y1
      unfold wharfref01_Signs.l0
      repeat' first
      | (with_reducible exact ih0 _ _)
      | (with_reducible exact wharfref01_First.mono _ _)
      | (with_reducible exact LeO.refl _)
      | (with_reducible exact LeO.none _)
      | (with_reducible refine LeO.ite ?_ ?_)
      | (with_reducible refine LeO.bind ?_ (fun _ => ?_))
      | exact ih0 _ _
      | exact wharfref01_First.mono _ _
      | exact LeO.none _
      | refine LeO.ite ?_ ?_
      | refine LeO.bind ?_ (fun _ => ?_)
theorem wharfref01_Signs.mono : ∀ a0 k, LeO (wharfref01_Signs.f k a0) (wharfref01_Signs.f (k + 1) a0) := by
  intro a0 k
  have ih0 := wharfref01_Signs.mono_l k
  unfold wharfref01_Signs.f
  repeat' first
      | (with_reducible exact ih0 _ _)
      | (with_reducible exact wharfref01_First.mono _ _)
      | (with_reducible exact LeO.refl _)
      | (with_reducible exact LeO.none _)
      | (with_reducible refine LeO.ite ?_ ?_)
      | (with_reducible refine LeO.bind ?_ (fun _ => ?_))
      | exact ih0 _ _
      | exact wharfref01_First.mono _ _
      | exact LeO.none _
      | refine LeO.ite ?_ ?_
      | refine LeO.bind ?_ (fun _ => ?_)
set_option maxHeartbeats 8000000 in
set_option maxRecDepth 100000 in
theorem wharfref01_Signs.calls (k : Nat) (a0 : ByteArray) (r1 : List Int) (r2 : Bool) (w : World) (h : wharfref01_Signs.f k a0 = some (r1, r2)) :
    Calls Tryd.prog 64 #[.string a0] w fun e w' => ∃ v0_ : Value, e = .returned (.tuple #[v0_, .bool r2]) ∧ Kd.R (Kd.int .i64) 3 w' w.heap.size (fun _ => True) v0_ r1 ∧ Below w.heap.size w w' := by
  have HB := Aside0.mk (Below.refl w.heap.size w)
  have H : (wharfref01_Signs.l0 k a0 ([] : List Int)) = some (r1, r2) := h
  clear h
  have H' := Aside0.mk H
  clear H
  go_enter Tryd.func64, Tryd.ntmps64
  go_wp2
  go_loopg [0, 4] k (fun kq v0 v4 w' => ∃ (x0_1 : ByteArray) (x4_1 : List Int), v0 = .string x0_1 ∧ Aside0 (wharfref01_Signs.l0 kq x0_1 x4_1 = some (r1, r2)) ∧ Aside0 (kq ≤ k) ∧ Aside0 (Kd.R (Kd.int .i64) 3 w' w.heap.size (fun _ => True) v4 x4_1) ∧ Aside0 (Below w.heap.size w w'))
  case atStart => exact ⟨(a0), (([] : List Int)), (by first | rfl | (simp; done) | (simp [*]; done)), H', ⟨Nat.le_refl _⟩, ⟨by first | exact Kd.R_nil _ _ _ _ _ | exact Kd.N_nil _ _ _ _ _ | exact Kd.V_nil _ _ _ _ _ | exact Kd.Q_nil _ _ _ _ _ | exact Kd.S_nil _ _ _ _ _⟩, ⟨by repeat (first | (with_reducible first | exact HB.out | apply below_alloc | apply pw_below_drewN | apply below_drew1) | exact HB.out)⟩⟩
  case round =>
    clear H'
    obtain ⟨x0_1, x4_1, rfl, HA, HK1, HO_4, HB⟩ := hrel
    cases gk with
    | zero => exact absurd HA.out (by simp [wharfref01_Signs.l0])
    | succ k1 =>
      have H := HA.out
      clear HA
      simp only [wharfref01_Signs.l0] at H
      by_cases c2 : x0_1.toList = ([] : List UInt8)
      · rw [if_pos c2] at H
        have c2b0 : (x0_1.toList == ([] : List UInt8)) = true := beq_iff_eq.mpr c2
        have c2b1 : (x0_1.toList != ([] : List UInt8)) = false := bne_eq_false_iff_eq.mpr c2
        clear c2
        simp only [Option.some.injEq, Prod.mk.injEq] at H
        obtain ⟨rfl, rfl⟩ := H
        go_wp2
        go_ret2
        exact ⟨_, by first | rfl | (simp [errW_none, errW_some] <;> rfl) | (simp [*, errW_none, errW_some] <;> rfl), by (with_reducible repeat (first | apply Kd.R_alloc | apply Kd.R_drewN | apply Kd.R_drew)); exact HO_4.out, by repeat (first | (with_reducible first | exact HB.out | apply below_alloc | apply pw_below_drewN | apply below_drew1) | exact HB.out)⟩
      · rw [if_neg c2] at H
        have c2b0 : (x0_1.toList == ([] : List UInt8)) = false := beq_eq_false_iff_ne.mpr c2
        have c2b1 : (x0_1.toList != ([] : List UInt8)) = true := bne_iff_ne.mpr c2
        replace H := Option.bind_eq_some_iff.mp H
        obtain ⟨⟨t116, t117, t118⟩, A30, H⟩ := H
        replace H : (if t118 = 0 then ((wharfref01_Plain.f t116).bind fun t119 => (if t119 = true then (if x4_1.length < 17592186044416 then (if 0 ≤ t117 then (if t117 ≤ (x0_1.size : Int) then (wharfref01_Signs.l0 k1 (x0_1.extract (t117 : Int).toNat x0_1.size) (x4_1 ++ [t116])) else (none)) else (none)) else (none)) else (some (([] : List Int), false)))) else (some (([] : List Int), false))) = some (r1, r2) := H
        have A3 := Aside0.mk A30
        clear A30
        by_cases c4 : t118 = 0
        · rw [if_pos c4] at H
          have c4b0 : (t118 == 0) = true := beq_iff_eq.mpr c4
          have c4b1 : (t118 != 0) = false := bne_eq_false_iff_eq.mpr c4
          clear c4
          replace H := Option.bind_eq_some_iff.mp H
          obtain ⟨t119, A50, H⟩ := H
          replace H : (if t119 = true then (if x4_1.length < 17592186044416 then (if 0 ≤ t117 then (if t117 ≤ (x0_1.size : Int) then (wharfref01_Signs.l0 k1 (x0_1.extract (t117 : Int).toNat x0_1.size) (x4_1 ++ [t116])) else (none)) else (none)) else (none)) else (some (([] : List Int), false))) = some (r1, r2) := H
          have A5 := Aside0.mk A50
          clear A50
          by_cases c6 : t119 = true
          · subst c6
            have H1 : (if x4_1.length < 17592186044416 then (if 0 ≤ t117 then (if t117 ≤ (x0_1.size : Int) then (wharfref01_Signs.l0 k1 (x0_1.extract (t117 : Int).toNat x0_1.size) (x4_1 ++ [t116])) else (none)) else (none)) else (none)) = some (r1, r2) := by rw [if_pos rfl] at H; exact H
            clear H
            have H := H1
            clear H1
            by_cases c7 : x4_1.length < 17592186044416
            · rw [if_pos c7] at H
              have LMc7 := Aside0.mk c7
              clear c7
              obtain ⟨y120, hy120⟩ : ∃ y_ : List Int, y_ = (x4_1 ++ [t116]) := ⟨_, rfl⟩
              replace H : (if 0 ≤ t117 then (if t117 ≤ (x0_1.size : Int) then (wharfref01_Signs.l0 k1 (x0_1.extract (t117 : Int).toNat x0_1.size) y120) else (none)) else (none)) = some (r1, r2) := by first | (rw [hy120]; with_reducible exact H) | (have H2_ := (Option.bind_some _ _).symm.trans H; rw [hy120]; with_reducible exact H2_) | (have H2_ := (Option.bind_some _ _).symm.trans H; with_reducible exact H2_) | with_reducible exact H | (rw [hy120]; exact H) | exact H
              have Ny120 := Aside0.mk hy120
              clear hy120
              by_cases c8 : 0 ≤ t117
              · rw [if_pos c8] at H
                have c8b0 := eq_true c8
                have c8b1 : decide (0 ≤ t117) = true := decide_eq_true c8
                clear c8
                by_cases c9 : t117 ≤ (x0_1.size : Int)
                · rw [if_pos c9] at H
                  have c9b0 := eq_true c9
                  have c9b1 : decide (t117 ≤ (x0_1.size : Int)) = true := decide_eq_true c9
                  clear c9
                  have H' := Aside0.mk H
                  clear H
                  go_wp2_with (first | ((with_reducible refine gate_callee (f := 76) rfl ?_); refine goesL_ (some 12) rfl rfl Tryd.func76 (by kernel_rfl) rfl #[.string x0_1] rfl (by (try simp only [List.map_toArray, List.map_cons, List.map_nil]); first | done | rfl | (simp only [List.length_drop, List.length_take]; rfl)) ?_; (with_reducible refine (wharfref01_First.calls k1 x0_1 t116 t117 t118 _ A3.out).mono ?_); rintro e w10 ⟨rfl, hb⟩; refine ⟨_, rfl, ?_⟩; have n0_ := Aside0.mk (Kd.R_below (by (with_reducible repeat (first | apply Kd.R_alloc | apply Kd.R_drewN | apply Kd.R_drew)); exact HO_4.out) hb); have n1_ := Aside0.mk (below_step (by repeat (first | (with_reducible first | exact HB.out | apply below_alloc | apply pw_below_drewN | apply below_drew1) | exact HB.out)) hb); clear HO_4; clear HB; have HO_4 := n0_; have HB := n1_; clear n0_ n1_; (try clear hb); (try clear hb2); (try clear hk); (try clear hi)) | (go_at_call 77; (with_reducible refine (wharfref01_Plain.calls t116 true _ A5.out).mono ?_); rintro e w' ⟨rfl, ⟨nd, rfl⟩⟩) | ((with_reducible refine gate_builtin (b := .append) (xs := #[.tmp 23, .tmp 25]) rfl ?_); at_builtin; refine Kd.R_append (Kd.int .i64) (w0 := w) w.heap.size rfl (.tmp 23) (.tmp 25) 80 3 (.int .i64 0) 8 rfl Tryd.underlying80 info3 rfl (by decide) (by omega) u4 x4_1 t116 [.int .i64 t116] (fun _ => True) (fun _ => False) rfl rfl ?aP (fun _ hk => hk.elim) ?aF ?aO ?aB ?aS ?aL ?_; (case aP => exact rfl); (case aB => exact (by repeat (first | (with_reducible first | exact HB.out | apply below_alloc | apply pw_below_drewN | apply below_drew1) | exact HB.out))); (case aF => exact (fun _ _ => trivial)); (case aO => exact (by (with_reducible repeat (first | apply Kd.R_alloc | apply Kd.R_drewN | apply Kd.R_drew)); exact HO_4.out)); (case aS => exact (below_size (by repeat (first | (with_reducible first | exact HB.out | apply below_alloc | apply pw_below_drewN | apply below_drew1) | exact HB.out)))); (case aL => have := LMc7.out; omega); intro v121 w11 ho hb hg hat; rw [← Ny120.out] at ho; have n0_ := Aside0.mk (hb); have n1_ := Aside0.mk (ho); clear HB; clear HO_4; have HB := n0_; have HO122 := n1_; clear n0_ n1_; clear ho hb hg hat))
                  go_roundg k1
                  case measure => have := HK1.out; omega
                  case rel => exact ⟨(x0_1.extract (t117 : Int).toNat x0_1.size), (y120), (by first | rfl | (simp; done) | (simp [*]; done)), H', ⟨by have := HK1.out; omega⟩, ⟨by (with_reducible repeat (first | apply Kd.R_alloc | apply Kd.R_drewN | apply Kd.R_drew)); exact HO122.out⟩, ⟨by repeat (first | (with_reducible first | exact HB.out | apply below_alloc | apply pw_below_drewN | apply below_drew1) | exact HB.out)⟩⟩
                · rw [if_neg c9] at H
                  exact absurd H (by simp)
              · rw [if_neg c8] at H
                exact absurd H (by simp)
            · rw [if_neg c7] at H
              exact absurd H (by simp)
          · replace c6 := Bool.eq_false_iff.mpr c6
            subst c6
            have H1 : (some (([] : List Int), false)) = some (r1, r2) := by rw [if_neg (show ¬ (false = true) by decide)] at H; exact H
            clear H
            have H := H1
            clear H1
            simp only [Option.some.injEq, Prod.mk.injEq] at H
            obtain ⟨rfl, rfl⟩ := H
            go_wp2_with (first | ((with_reducible refine gate_callee (f := 76) rfl ?_); refine goesL_ (some 12) rfl rfl Tryd.func76 (by kernel_rfl) rfl #[.string x0_1] rfl (by (try simp only [List.map_toArray, List.map_cons, List.map_nil]); first | done | rfl | (simp only [List.length_drop, List.length_take]; rfl)) ?_; (with_reducible refine (wharfref01_First.calls k1 x0_1 t116 t117 t118 _ A3.out).mono ?_); rintro e w12 ⟨rfl, hb⟩; refine ⟨_, rfl, ?_⟩; have n0_ := Aside0.mk (Kd.R_below (by (with_reducible repeat (first | apply Kd.R_alloc | apply Kd.R_drewN | apply Kd.R_drew)); exact HO_4.out) hb); have n1_ := Aside0.mk (below_step (by repeat (first | (with_reducible first | exact HB.out | apply below_alloc | apply pw_below_drewN | apply below_drew1) | exact HB.out)) hb); clear HO_4; clear HB; have HO_4 := n0_; have HB := n1_; clear n0_ n1_; (try clear hb); (try clear hb2); (try clear hk); (try clear hi)) | (go_at_call 77; (with_reducible refine (wharfref01_Plain.calls t116 false _ A5.out).mono ?_); rintro e w' ⟨rfl, ⟨nd, rfl⟩⟩))
            go_ret2
            exact ⟨_, by first | rfl | (simp [errW_none, errW_some] <;> rfl) | (simp [*, errW_none, errW_some] <;> rfl), by first | exact Kd.R_nil _ _ _ _ _ | exact Kd.N_nil _ _ _ _ _ | exact Kd.V_nil _ _ _ _ _ | exact Kd.Q_nil _ _ _ _ _ | exact Kd.S_nil _ _ _ _ _, by repeat (first | (with_reducible first | exact HB.out | apply below_alloc | apply pw_below_drewN | apply below_drew1) | exact HB.out)⟩
        · rw [if_neg c4] at H
          have c4b0 : (t118 == 0) = false := beq_eq_false_iff_ne.mpr c4
          have c4b1 : (t118 != 0) = true := bne_iff_ne.mpr c4
          simp only [Option.some.injEq, Prod.mk.injEq] at H
          obtain ⟨rfl, rfl⟩ := H
          go_wp2_with (first | ((with_reducible refine gate_callee (f := 76) rfl ?_); refine goesL_ (some 12) rfl rfl Tryd.func76 (by kernel_rfl) rfl #[.string x0_1] rfl (by (try simp only [List.map_toArray, List.map_cons, List.map_nil]); first | done | rfl | (simp only [List.length_drop, List.length_take]; rfl)) ?_; (with_reducible refine (wharfref01_First.calls k1 x0_1 t116 t117 t118 _ A3.out).mono ?_); rintro e w13 ⟨rfl, hb⟩; refine ⟨_, rfl, ?_⟩; have n0_ := Aside0.mk (Kd.R_below (by (with_reducible repeat (first | apply Kd.R_alloc | apply Kd.R_drewN | apply Kd.R_drew)); exact HO_4.out) hb); have n1_ := Aside0.mk (below_step (by repeat (first | (with_reducible first | exact HB.out | apply below_alloc | apply pw_below_drewN | apply below_drew1) | exact HB.out)) hb); clear HO_4; clear HB; have HO_4 := n0_; have HB := n1_; clear n0_ n1_; (try clear hb); (try clear hb2); (try clear hk); (try clear hi)))
          go_ret2
          exact ⟨_, by first | rfl | (simp [errW_none, errW_some] <;> rfl) | (simp [*, errW_none, errW_some] <;> rfl), by first | exact Kd.R_nil _ _ _ _ _ | exact Kd.N_nil _ _ _ _ _ | exact Kd.V_nil _ _ _ _ _ | exact Kd.Q_nil _ _ _ _ _ | exact Kd.S_nil _ _ _ _ _, by repeat (first | (with_reducible first | exact HB.out | apply below_alloc | apply pw_below_drewN | apply below_drew1) | exact HB.out)⟩

/-! ### wharfref03_text: function 50 -/
mutual
def wharfref03_text.j0 : Nat → List Int → Bool → Option (Bool)
  | 0, _, _ => none
  | k + 1, x3, x17 => if x17 = true then (some false) else (wharfref03_text.l0 k x3 0)
def wharfref03_text.l0 : Nat → List Int → Int → Option (Bool)
  | 0, _, _ => none
  | k + 1, x3, x5 => if x5 < (x3.length : Int) then (if 0 ≤ x5 then (if (rd x3 x5) < 32 then (some false) else (if (rd x3 x5) = 127 then (some false) else (wharfref03_text.l0 k x3 (wrap64 (x5 + 1))))) else (none)) else (some true)
end
def wharfref03_text.f (k : Nat) (a0 : ByteArray) : Option (Bool) := (wharfref01_Signs.f k a0).bind fun bt123 => (if bt123.2 = true then (wharfref03_text.j0 k bt123.1 (decide ((a0.size : Int) > 1023))) else (wharfref03_text.j0 k bt123.1 true))
theorem wharfref03_text.mono_l : ∀ k, (∀ y0 y1, LeO (wharfref03_text.j0 k y0 y1) (wharfref03_text.j0 (k + 1) y0 y1)) ∧ (∀ y0 y1, LeO (wharfref03_text.l0 k y0 y1) (wharfref03_text.l0 (k + 1) y0 y1))
  | 0 => ⟨fun _ _ r h => by simp [wharfref03_text.j0] at h, fun _ _ r h => by simp [wharfref03_text.l0] at h⟩
  | k + 1 => by
    obtain ⟨ih0, ih1⟩ := wharfref03_text.mono_l k
    refine ⟨?_, ?_⟩
    · intro y0 y1
      unfold wharfref03_text.j0
      repeat' first
      | (with_reducible exact ih0 _ _)
      | (with_reducible exact ih1 _ _)
      | (with_reducible exact wharfref01_Signs.mono _ _)
      | (with_reducible exact LeO.refl _)
      | (with_reducible exact LeO.none _)
      | (with_reducible refine LeO.ite ?_ ?_)
      | (with_reducible refine LeO.bind ?_ (fun _ => ?_))
      | exact ih0 _ _
      | exact ih1 _ _
      | exact wharfref01_Signs.mono _ _
      | exact LeO.none _
      | refine LeO.ite ?_ ?_
      | refine LeO.bind ?_ (fun _ => ?_)
    · intro y0 y1
      unfold wharfref03_text.l0
      repeat' first
      | (with_reducible exact ih0 _ _)
      | (with_reducible exact ih1 _ _)
      | (with_reducible exact wharfref01_Signs.mono _ _)
      | (with_reducible exact LeO.refl _)
      | (with_reducible exact LeO.none _)
      | (with_reducible refine LeO.ite ?_ ?_)
      | (with_reducible refine LeO.bind ?_ (fun _ => ?_))
      | exact ih0 _ _
      | exact ih1 _ _
      | exact wharfref01_Signs.mono _ _
      | exact LeO.none _
      | refine LeO.ite ?_ ?_
      | refine LeO.bind ?_ (fun _ => ?_)
theorem wharfref03_text.mono : ∀ a0 k, LeO (wharfref03_text.f k a0) (wharfref03_text.f (k + 1) a0) := by
  intro a0 k
  obtain ⟨ih0, ih1⟩ := wharfref03_text.mono_l k
  unfold wharfref03_text.f
  repeat' first
      | (with_reducible exact ih0 _ _)
      | (with_reducible exact ih1 _ _)
      | (with_reducible exact wharfref01_Signs.mono _ _)
      | (with_reducible exact LeO.refl _)
      | (with_reducible exact LeO.none _)
      | (with_reducible refine LeO.ite ?_ ?_)
      | (with_reducible refine LeO.bind ?_ (fun _ => ?_))
      | exact ih0 _ _
      | exact ih1 _ _
      | exact wharfref01_Signs.mono _ _
      | exact LeO.none _
      | refine LeO.ite ?_ ?_
      | refine LeO.bind ?_ (fun _ => ?_)
set_option maxHeartbeats 8000000 in
set_option maxRecDepth 100000 in
theorem wharfref03_text.calls (k : Nat) (a0 : ByteArray) (r : Bool) (w : World) (h : wharfref03_text.f k a0 = some r) :
    Calls Tryd.prog 50 #[.string a0] w fun e w' => e = .returned (.bool r) ∧ Below w.heap.size w w' := by
  have HB := Aside0.mk (Below.refl w.heap.size w)
  have H : ((wharfref01_Signs.f k a0).bind fun bt123 => (if bt123.2 = true then (wharfref03_text.j0 k bt123.1 (decide ((a0.size : Int) > 1023))) else (wharfref03_text.j0 k bt123.1 true))) = some r := h
  clear h
  replace H := Option.bind_eq_some_iff.mp H
  obtain ⟨⟨t123, t124⟩, A20, H⟩ := H
  replace H : (if t124 = true then (wharfref03_text.j0 k t123 (decide ((a0.size : Int) > 1023))) else (wharfref03_text.j0 k t123 true)) = some r := H
  have A2 := Aside0.mk A20
  clear A20
  have HC3 := Aside0.mk H
  clear H
  go_enter Tryd.func50, Tryd.ntmps50
  go_upto_region 2 with (first | ((with_reducible refine gate_callee (f := 64) rfl ?_); refine goesL_ (some 8) rfl rfl Tryd.func64 (by kernel_rfl) rfl #[.string a0] rfl (by (try simp only [List.map_toArray, List.map_cons, List.map_nil]); first | done | rfl | (simp only [List.length_drop, List.length_take]; rfl)) ?_; (with_reducible refine (wharfref01_Signs.calls k a0 t123 t124 _ A2.out).mono ?_); rintro e w4 ⟨v125, rfl, ho0, hb⟩; refine ⟨_, rfl, ?_⟩; have n0_ := Aside0.mk (Kd.R_lower ho0 (below_size (by repeat (first | (with_reducible first | exact HB.out | apply below_alloc | apply pw_below_drewN | apply below_drew1) | exact HB.out)))); have n1_ := Aside0.mk (below_step (by repeat (first | (with_reducible first | exact HB.out | apply below_alloc | apply pw_below_drewN | apply below_drew1) | exact HB.out)) hb); clear HB; have HO126 := n0_; have HB := n1_; clear n0_ n1_; (try clear hb); (try clear hb2); (try clear hk); (try clear hi); (try clear ho0)))
  (try simp only [Act.put, List.setIfInBounds_toArray, List.set_cons_zero, List.set_cons_succ])
  go_cut [17] (fun v17 wc => ∃ (kq : Nat) (x17_2 : Bool), v17 = .bool x17_2 ∧ Aside0 (wharfref03_text.j0 kq t123 x17_2 = some r) ∧ Aside0 (kq ≤ k) ∧ Aside0 (Kd.R (Kd.int .i64) 3 wc w.heap.size (fun _ => True) v125 t123) ∧ Aside0 (Below w.heap.size w wc))
  case first =>
    have H := HC3.out
    clear HC3
    by_cases c5 : t124 = true
    · subst c5
      have H1 : (wharfref03_text.j0 k t123 (decide ((a0.size : Int) > 1023))) = some r := by rw [if_pos rfl] at H; exact H
      clear H
      have H := H1
      clear H1
      have H' := Aside0.mk H
      clear H
      go_wp2
      go_meet
      case rel => exact ⟨_, (decide ((a0.size : Int) > 1023)), (by first | rfl | (simp; done) | (simp [*]; done)), H', ⟨by first | omega | exact Nat.le_refl _⟩, ⟨by (with_reducible repeat (first | apply Kd.R_alloc | apply Kd.R_drewN | apply Kd.R_drew)); exact HO126.out⟩, ⟨by repeat (first | (with_reducible first | exact HB.out | apply below_alloc | apply pw_below_drewN | apply below_drew1) | exact HB.out)⟩⟩
    · replace c5 := Bool.eq_false_iff.mpr c5
      subst c5
      have H1 : (wharfref03_text.j0 k t123 true) = some r := by rw [if_neg (show ¬ (false = true) by decide)] at H; exact H
      clear H
      have H := H1
      clear H1
      have H' := Aside0.mk H
      clear H
      go_wp2
      go_meet
      case rel => exact ⟨_, (true), (by first | rfl | (simp; done) | (simp [*]; done)), H', ⟨by first | omega | exact Nat.le_refl _⟩, ⟨by (with_reducible repeat (first | apply Kd.R_alloc | apply Kd.R_drewN | apply Kd.R_drew)); exact HO126.out⟩, ⟨by repeat (first | (with_reducible first | exact HB.out | apply below_alloc | apply pw_below_drewN | apply below_drew1) | exact HB.out)⟩⟩
  case rest =>
    clear HC3
    try clear p2
    try clear c5
    obtain ⟨kq, x17_2, rfl, HA, HJ2, HO_3, HB⟩ := hcut
    cases kq with
    | zero => exact absurd HA.out (by simp [wharfref03_text.j0])
    | succ kj2 =>
      have H := HA.out
      clear HA
      simp only [wharfref03_text.j0] at H
      by_cases c6 : x17_2 = true
      · subst c6
        have H1 : (some false) = some r := by rw [if_pos rfl] at H; exact H
        clear H
        have H := H1
        clear H1
        obtain rfl := Option.some.inj H
        go_wp2
        go_ret
        exact ⟨by first | rfl | (simp [errW_none, errW_some] <;> rfl) | (simp [*, errW_none, errW_some] <;> rfl), by repeat (first | (with_reducible first | exact HB.out | apply below_alloc | apply pw_below_drewN | apply below_drew1) | exact HB.out)⟩
      · replace c6 := Bool.eq_false_iff.mpr c6
        subst c6
        have H1 : (wharfref03_text.l0 kj2 t123 0) = some r := by rw [if_neg (show ¬ (false = true) by decide)] at H; exact H
        clear H
        have H := H1
        clear H1
        have H' := Aside0.mk H
        clear H
        go_wp2
        go_loopg [5] kj2 (fun kq v5 w' => ∃ (x5_2 : Int), v5 = .int .i64 x5_2 ∧ Aside0 (wharfref03_text.l0 kq t123 x5_2 = some r) ∧ Aside0 (kq ≤ kj2) ∧ Aside0 (Kd.R (Kd.int .i64) 3 w' w.heap.size (fun _ => True) v125 t123) ∧ Aside0 (Below w.heap.size w w'))
        case atStart => exact ⟨(0), (by first | rfl | (simp; done) | (simp [*]; done)), H', ⟨Nat.le_refl _⟩, ⟨by (with_reducible repeat (first | apply Kd.R_alloc | apply Kd.R_drewN | apply Kd.R_drew)); exact HO_3.out⟩, ⟨by repeat (first | (with_reducible first | exact HB.out | apply below_alloc | apply pw_below_drewN | apply below_drew1) | exact HB.out)⟩⟩
        case round =>
          clear H'
          try clear p2
          try clear c5
          try clear c6
          try clear p2
          obtain ⟨x5_2, rfl, HA, HK2, HO_3, HB⟩ := hrel
          cases gk with
          | zero => exact absurd HA.out (by simp [wharfref03_text.l0])
          | succ k2 =>
            have H := HA.out
            clear HA
            simp only [wharfref03_text.l0] at H
            by_cases c7 : x5_2 < (t123.length : Int)
            · rw [if_pos c7] at H
              have c7b0 : decide (x5_2 < (t123.length : Int)) = true := decide_eq_true c7
              clear c7
              by_cases c8 : 0 ≤ x5_2
              · rw [if_pos c8] at H
                have c8b0 : decide (0 ≤ x5_2) = true := decide_eq_true c8
                clear c8
                by_cases c9 : (rd t123 x5_2) < 32
                · rw [if_pos c9] at H
                  have c9b0 : decide ((rd t123 x5_2) < 32) = true := decide_eq_true c9
                  clear c9
                  obtain rfl := Option.some.inj H
                  obtain ⟨Ao10, co10, eo10⟩ := Kd.R_slice HO_3.out
                  subst eo10
                  have p127 : 0 ≤ (x5_2 : Int) := of_decide_eq_true (by first | (with_reducible assumption) | assumption)
                  have q127 : x5_2 < (t123.length : Int) := of_decide_eq_true (by first | (with_reducible assumption) | assumption)
                  obtain ⟨ad127, e127, hx127_0⟩ := Kd.at_int (Kd.R_reads' HO_3.out).2.2 x5_2 p127 q127
                  cases e127
                  replace p127 := eq_true p127
                  replace q127 := eq_true q127
                  go_wp2
                  go_ret
                  exact ⟨by first | rfl | (simp [errW_none, errW_some] <;> rfl) | (simp [*, errW_none, errW_some] <;> rfl), by repeat (first | (with_reducible first | exact HB.out | apply below_alloc | apply pw_below_drewN | apply below_drew1) | exact HB.out)⟩
                · rw [if_neg c9] at H
                  have c9b0 : decide ((rd t123 x5_2) < 32) = false := decide_eq_false c9
                  clear c9
                  by_cases c11 : (rd t123 x5_2) = 127
                  · rw [if_pos c11] at H
                    have c11b0 : ((rd t123 x5_2) == 127) = true := beq_iff_eq.mpr c11
                    have c11b1 : ((rd t123 x5_2) != 127) = false := bne_eq_false_iff_eq.mpr c11
                    clear c11
                    obtain rfl := Option.some.inj H
                    obtain ⟨Ao12, co12, eo12⟩ := Kd.R_slice HO_3.out
                    subst eo12
                    have p127 : 0 ≤ (x5_2 : Int) := of_decide_eq_true (by first | (with_reducible assumption) | assumption)
                    have q127 : x5_2 < (t123.length : Int) := of_decide_eq_true (by first | (with_reducible assumption) | assumption)
                    obtain ⟨ad127, e127, hx127_0⟩ := Kd.at_int (Kd.R_reads' HO_3.out).2.2 x5_2 p127 q127
                    cases e127
                    replace p127 := eq_true p127
                    replace q127 := eq_true q127
                    have p128 : 0 ≤ (x5_2 : Int) := of_decide_eq_true (by first | (with_reducible assumption) | assumption)
                    have q128 : x5_2 < (t123.length : Int) := of_decide_eq_true (by first | (with_reducible assumption) | assumption)
                    obtain ⟨ad128, e128, hx128_0⟩ := Kd.at_int (Kd.R_reads' HO_3.out).2.2 x5_2 p128 q128
                    obtain rfl : ad127 = ad128 := (by injection e128)
                    replace p128 := eq_true p128
                    replace q128 := eq_true q128
                    go_wp2
                    go_ret
                    exact ⟨by first | rfl | (simp [errW_none, errW_some] <;> rfl) | (simp [*, errW_none, errW_some] <;> rfl), by repeat (first | (with_reducible first | exact HB.out | apply below_alloc | apply pw_below_drewN | apply below_drew1) | exact HB.out)⟩
                  · rw [if_neg c11] at H
                    have c11b0 : ((rd t123 x5_2) == 127) = false := beq_eq_false_iff_ne.mpr c11
                    have c11b1 : ((rd t123 x5_2) != 127) = true := bne_iff_ne.mpr c11
                    have H' := Aside0.mk H
                    clear H
                    obtain ⟨Ao13, co13, eo13⟩ := Kd.R_slice HO_3.out
                    subst eo13
                    have p127 : 0 ≤ (x5_2 : Int) := of_decide_eq_true (by first | (with_reducible assumption) | assumption)
                    have q127 : x5_2 < (t123.length : Int) := of_decide_eq_true (by first | (with_reducible assumption) | assumption)
                    obtain ⟨ad127, e127, hx127_0⟩ := Kd.at_int (Kd.R_reads' HO_3.out).2.2 x5_2 p127 q127
                    cases e127
                    replace p127 := eq_true p127
                    replace q127 := eq_true q127
                    have p128 : 0 ≤ (x5_2 : Int) := of_decide_eq_true (by first | (with_reducible assumption) | assumption)
                    have q128 : x5_2 < (t123.length : Int) := of_decide_eq_true (by first | (with_reducible assumption) | assumption)
                    obtain ⟨ad128, e128, hx128_0⟩ := Kd.at_int (Kd.R_reads' HO_3.out).2.2 x5_2 p128 q128
                    obtain rfl : ad127 = ad128 := (by injection e128)
                    replace p128 := eq_true p128
                    replace q128 := eq_true q128
                    go_wp2
                    go_roundg k2
                    case measure => have := HJ2.out; have := HK2.out; omega
                    case rel => exact ⟨(wrap64 (x5_2 + 1)), (by first | rfl | (simp; done) | (simp [*]; done)), H', ⟨by have := HJ2.out; have := HK2.out; omega⟩, ⟨by (with_reducible repeat (first | apply Kd.R_alloc | apply Kd.R_drewN | apply Kd.R_drew)); exact HO_3.out⟩, ⟨by repeat (first | (with_reducible first | exact HB.out | apply below_alloc | apply pw_below_drewN | apply below_drew1) | exact HB.out)⟩⟩
              · rw [if_neg c8] at H
                exact absurd H (by simp)
            · rw [if_neg c7] at H
              have c7b0 : decide (x5_2 < (t123.length : Int)) = false := decide_eq_false c7
              clear c7
              obtain rfl := Option.some.inj H
              obtain ⟨Ao14, co14, eo14⟩ := Kd.R_slice HO_3.out
              subst eo14
              go_wp2
              go_ret
              exact ⟨by first | rfl | (simp [errW_none, errW_some] <;> rfl) | (simp [*, errW_none, errW_some] <;> rfl), by repeat (first | (with_reducible first | exact HB.out | apply below_alloc | apply pw_below_drewN | apply below_drew1) | exact HB.out)⟩

/-- THE ONE PURE STATEMENT of wharfref03_text: yours. -/
def wharfref03_text.Pure : Prop := ∀ (a0 : ByteArray), a0.size ≤ 140737488351232 → ∃ k, wharfref03_text.f k a0 = some true
theorem wharfref03_text.walk (P : wharfref03_text.Pure) (a0 : ByteArray) (w : World) (w0 : a0.size ≤ 140737488351232) :
    Calls Tryd.prog 50 #[.string a0] w fun e w' => e = .returned (.bool true) ∧ Below w.heap.size w w' := by
  obtain ⟨k, h⟩ := P a0 w0
  refine (wharfref03_text.calls k a0 true w h).mono ?_
  rintro e w' ⟨rfl, hd⟩
  exact ⟨rfl, hd⟩

/-! ### wharfref03_in: function 51 -/
def wharfref03_in.l0 : Nat → Int → ByteArray → Int → Option (Bool)
  | 0, _, _, _ => none
  | k + 1, x0, x1, x5 => if x5 < (x1.size : Int) then (if 0 ≤ x5 then (if (bt x1 x5) = x0 then (some true) else (wharfref03_in.l0 k x0 x1 (wrap64 (x5 + 1)))) else (none)) else (some false)
def wharfref03_in.f (k : Nat) (a0 : Int) (a1 : ByteArray) : Option (Bool) := wharfref03_in.l0 k a0 a1 0
theorem wharfref03_in.mono_l : ∀ k, (∀ y0 y1 y2, LeO (wharfref03_in.l0 k y0 y1 y2) (wharfref03_in.l0 (k + 1) y0 y1 y2))
  | 0 => fun _ _ _ r h => by simp [wharfref03_in.l0] at h
  | k + 1 => by
    have ih0 := wharfref03_in.mono_l k
    · intro y0 y1 y2
      unfold wharfref03_in.l0
      repeat' first
      | (with_reducible exact ih0 _ _ _)
      | (with_reducible exact LeO.refl _)
      | (with_reducible exact LeO.none _)
      | (with_reducible refine LeO.ite ?_ ?_)
      | (with_reducible refine LeO.bind ?_ (fun _ => ?_))
      | exact ih0 _ _ _
      | exact LeO.none _
      | refine LeO.ite ?_ ?_
      | refine LeO.bind ?_ (fun _ => ?_)
theorem wharfref03_in.mono : ∀ a0 a1 k, LeO (wharfref03_in.f k a0 a1) (wharfref03_in.f (k + 1) a0 a1) := by
  intro a0 a1 k
  have ih0 := wharfref03_in.mono_l k
  unfold wharfref03_in.f
  repeat' first
      | (with_reducible exact ih0 _ _ _)
      | (with_reducible exact LeO.refl _)
      | (with_reducible exact LeO.none _)
      | (with_reducible refine LeO.ite ?_ ?_)
      | (with_reducible refine LeO.bind ?_ (fun _ => ?_))
      | exact ih0 _ _ _
      | exact LeO.none _
      | refine LeO.ite ?_ ?_
      | refine LeO.bind ?_ (fun _ => ?_)
set_option maxHeartbeats 8000000 in
set_option maxRecDepth 100000 in
theorem wharfref03_in.calls (k : Nat) (a0 : Int) (a1 : ByteArray) (r : Bool) (w : World) (h : wharfref03_in.f k a0 a1 = some r) :
    Calls Tryd.prog 51 #[.int .u8 a0, .string a1] w fun e w' => e = .returned (.bool r) ∧ Drawn0 w w' := by
  have H : (wharfref03_in.l0 k a0 a1 0) = some r := h
  clear h
  have H' := Aside0.mk H
  clear H
  go_enter Tryd.func51, Tryd.ntmps51
  go_wp2
  go_loopg [5] k (fun kq v5 w' => ∃ (x5_1 : Int), v5 = .int .i64 x5_1 ∧ Aside0 (wharfref03_in.l0 kq a0 a1 x5_1 = some r) ∧ Aside0 (kq ≤ k) ∧ Drawn0 w w')
  case atStart => exact ⟨(0), (by first | rfl | (simp; done) | (simp [*]; done)), H', ⟨Nat.le_refl _⟩, by repeat (first | exact Drawn0.refl _ | apply Drawn0.step)⟩
  case round =>
    clear H'
    try clear p2
    obtain ⟨x5_1, rfl, HA, HK1, ⟨m1, rfl⟩⟩ := hrel
    cases gk with
    | zero => exact absurd HA.out (by simp [wharfref03_in.l0])
    | succ k1 =>
      have H := HA.out
      clear HA
      simp only [wharfref03_in.l0] at H
      by_cases c3 : x5_1 < (a1.size : Int)
      · rw [if_pos c3] at H
        have c3b0 : decide (x5_1 < (a1.size : Int)) = true := decide_eq_true c3
        clear c3
        by_cases c4 : 0 ≤ x5_1
        · rw [if_pos c4] at H
          have c4b0 : decide (0 ≤ x5_1) = true := decide_eq_true c4
          clear c4
          by_cases c6 : (bt a1 x5_1) = a0
          · rw [if_pos c6] at H
            have c6b0 : ((bt a1 x5_1) == a0) = true := beq_iff_eq.mpr c6
            have c6b1 : ((bt a1 x5_1) != a0) = false := bne_eq_false_iff_eq.mpr c6
            clear c6
            obtain rfl := Option.some.inj H
            have p5 : 0 ≤ (x5_1 : Int) := of_decide_eq_true (by first | (with_reducible assumption) | assumption)
            have q5 : x5_1 < (a1.size : Int) := of_decide_eq_true (by first | (with_reducible assumption) | assumption)
            have hx5 := bt_at a1 x5_1
            replace p5 := eq_true p5
            replace q5 := eq_true q5
            go_wp2
            go_ret
            exact ⟨by first | rfl | (simp; done) | (simp [*]; done), by repeat (first | exact Drawn0.refl _ | apply Drawn0.step)⟩
          · rw [if_neg c6] at H
            have c6b0 : ((bt a1 x5_1) == a0) = false := beq_eq_false_iff_ne.mpr c6
            have c6b1 : ((bt a1 x5_1) != a0) = true := bne_iff_ne.mpr c6
            have H' := Aside0.mk H
            clear H
            have p5 : 0 ≤ (x5_1 : Int) := of_decide_eq_true (by first | (with_reducible assumption) | assumption)
            have q5 : x5_1 < (a1.size : Int) := of_decide_eq_true (by first | (with_reducible assumption) | assumption)
            have hx5 := bt_at a1 x5_1
            replace p5 := eq_true p5
            replace q5 := eq_true q5
            go_wp2
            go_roundg k1
            case measure => have := HK1.out; omega
            case rel => exact ⟨(wrap64 (x5_1 + 1)), (by first | rfl | (simp; done) | (simp [*]; done)), H', ⟨by have := HK1.out; omega⟩, by repeat (first | exact Drawn0.refl _ | apply Drawn0.step)⟩
        · rw [if_neg c4] at H
          exact absurd H (by simp)
      · rw [if_neg c3] at H
        have c3b0 : decide (x5_1 < (a1.size : Int)) = false := decide_eq_false c3
        clear c3
        obtain rfl := Option.some.inj H
        go_wp2
        go_ret
        exact ⟨by first | rfl | (simp; done) | (simp [*]; done), by repeat (first | exact Drawn0.refl _ | apply Drawn0.step)⟩

/-- THE ONE PURE STATEMENT of wharfref03_in: yours. -/
def wharfref03_in.Pure : Prop := ∀ (a0 : Int) (a1 : ByteArray), (Lit.int .u8 a0).wf = true → a1.size ≤ 140737488351232 → ∃ k, wharfref03_in.f k a0 a1 = some true
theorem wharfref03_in.walk (P : wharfref03_in.Pure) (a0 : Int) (a1 : ByteArray) (w : World) (w0 : (Lit.int .u8 a0).wf = true) (w1 : a1.size ≤ 140737488351232) :
    Calls Tryd.prog 51 #[.int .u8 a0, .string a1] w fun e w' => e = .returned (.bool true) ∧ Below w.heap.size w w' := by
  obtain ⟨k, h⟩ := P a0 a1 w0 w1
  refine (wharfref03_in.calls k a0 a1 true w h).mono ?_
  rintro e w' ⟨rfl, hd⟩
  exact ⟨rfl, hd.below⟩

end Go.Proofs.YtnaimienfgpgmaaDoor.Ra

/- What functions of this translation return, each a function of Lean and its contract; written by a program of the session. -/
namespace Go.Proofs.YtnaimienfgpgmaaDoor.Ra
open Go.RowKit Go.Proofs.YtnaimienfgpgmaaDoor.F Go.Proofs.YtnaimienfgpgmaaDoorW.PrintWords Go.Proofs.YtnaimienfgpgmaaDoorW.PrintLast Go.Proofs.YtnaimienfgpgmaaDoorW.PrintMore
attribute [local go_sem] max2_int min2_int max_two min_two max_three min_three max_four min_four   -- for this text's walks alone
set_option linter.unusedVariables false
set_option linter.unusedSimpArgs false

end Go.Proofs.YtnaimienfgpgmaaDoor.Ra

/- wharfref01.First and Signs, as printed, against the signs of a text: plain. -/
set_option linter.unusedVariables false
set_option linter.unusedSimpArgs false
namespace Go.Proofs.YtnaimienfgpgmaaDoor.RaP
open Go.RowKit GlyP Go.Proofs.YtnaimienfgpgmaaDoorW.PrintWords Go.Proofs.YtnaimienfgpgmaaDoorW.PrintLast Go.Proofs.YtnaimienfgpgmaaDoorW.PrintMore Ra

theorem bt_by (s : ByteArray) (i : Nat) (j : Int) (h : j = (i : Int)) : bt s j = (by_ s.data.toList i : Int) := by
  subst h
  unfold bt by_
  by_cases hh : i < s.size
  · rw [dif_pos (by simpa using hh), List.getD_eq_getElem?_getD, List.getElem?_eq_getElem (by rw [U.len_data]; exact hh)]; rfl
  · rw [dif_neg (by simpa using hh), List.getD_eq_getElem?_getD, List.getElem?_eq_none (by rw [U.len_data]; omega)]; rfl

theorem map_inj {l m : List UInt8} (h : l.map (fun b => (b.toNat : Int)) = m.map (fun b => (b.toNat : Int))) : l = m := by
  have hi : Function.Injective (fun b : UInt8 => (b.toNat : Int)) := fun a b h => by
    have : (a.toNat : Int) = (b.toNat : Int) := h
    rw [← UInt8.toNat_inj]; omega
  exact (List.map_inj_right (fun a b => @hi a b)).mp h
theorem nums_back (xs : List Int) (h : ∀ x ∈ xs, 0 ≤ x ∧ x < 256) : (strOfNums xs).data.toList.map (fun b => (b.toNat : Int)) = xs := by
  rw [strOfNums_data, List.map_map]
  conv => rhs; rw [← List.map_id xs]
  apply List.map_congr_left
  intro x hx
  have := h x hx
  simp only [Function.comp, id_eq, UInt8.toNat_ofNat']
  omega
theorem ints_eq (s : ByteArray) (xs : List Int) (hx : ∀ x ∈ xs, 0 ≤ x ∧ x < 256) (n : Nat) (hn : n ≤ s.size) (hl : xs.length = n) (j : Nat) (hj : j = n) :
    ((strOfNums xs).toList = (s.extract 0 j).toList) ↔ (xs = (List.range n).map fun i => (by_ s.data.toList i : Int)) := by
  subst hj
  rw [Lib.toList_data, Lib.toList_data, U.take_data]
  have e : (s.data.toList.take j).map (fun b => (b.toNat : Int)) = (List.range j).map fun i => (by_ s.data.toList i : Int) := by
    apply List.ext_getElem
    · simp [U.len_data]; omega
    · intro i h1 h2
      have hi : i < s.size := by simp at h1; omega
      rw [List.getElem_map, List.getElem_map, List.getElem_take, List.getElem_range]
      unfold by_
      rw [List.getD_eq_getElem?_getD, List.getElem?_eq_getElem (show i < s.data.toList.length by rw [U.len_data]; exact hi)]; rfl
  constructor
  · intro h
    have := congrArg (List.map fun b : UInt8 => (b.toNat : Int)) h
    rw [nums_back xs hx, e] at this
    exact this
  · intro h
    apply map_inj
    rw [nums_back xs hx, e]; exact h

def sgn (c : Int) : Bool := decide (c < 55296) || decide (57343 < c) && decide (c ≤ 1114111)
def encI (c : Int) : List Int :=
  if c < 128 then [c] else if c < 2048 then [192 + c / 64, 128 + c % 64] else if c < 65536 then [224 + c / 4096, 128 + c / 64 % 64, 128 + c % 64]
  else [240 + c / 262144, 128 + c / 4096 % 64, 128 + c / 64 % 64, 128 + c % 64]
theorem w64 (x : Int) (h0 : -9000000000000000000 ≤ x) (h1 : x ≤ 9000000000000000000) : wrap64 x = x := by simp only [wrap64]; omega
theorem put_eq (c : Int) (h0 : 0 ≤ c) (h1 : c < 2097152) : wharfref01_Put.f c = some (if sgn c = true then (strOfNums (encI c), 0) else (⟨#[]⟩, 10)) := by
  have hi : wharfref01_Is.f c = some (sgn c) := by
    unfold wharfref01_Is.f sgn
    rw [if_pos (show c ≥ 0 by omega)]
    by_cases a1 : c ≤ 1114111
    · rw [if_pos a1]
      by_cases a2 : c < 55296
      · rw [if_pos a2]; simp [a2]
      · rw [if_neg a2]; simp [a1, a2]
    · rw [if_neg a1]
      have a2 : ¬ c < 55296 := by omega
      simp [a1, a2]
  unfold wharfref01_Put.f
  rw [hi]
  simp only [Option.bind_some]
  cases hs : sgn c with
  | false => simp
  | true =>
    have hc : c ≤ 1114111 := by unfold sgn at hs; simp at hs; omega
    simp only [if_true]
    unfold encI
    rw [Int.tdiv_eq_ediv_of_nonneg h0, Int.tdiv_eq_ediv_of_nonneg h0, Int.tdiv_eq_ediv_of_nonneg h0, Int.tmod_eq_emod_of_nonneg h0]
    rw [w64 (c / 64) (by omega) (by omega), w64 (c / 4096) (by omega) (by omega), w64 (c / 262144) (by omega) (by omega),
      Int.tmod_eq_emod_of_nonneg (show 0 ≤ c / 64 by omega), Int.tmod_eq_emod_of_nonneg (show 0 ≤ c / 4096 by omega)]
    rw [w64 (192 + c / 64) (by omega) (by omega), w64 (128 + c % 64) (by omega) (by omega), w64 (224 + c / 4096) (by omega) (by omega), w64 (128 + c / 64 % 64) (by omega) (by omega), w64 (240 + c / 262144) (by omega) (by omega), w64 (128 + c / 4096 % 64) (by omega) (by omega)]
    by_cases a1 : c < 128
    · rw [if_pos a1, if_pos a1, Int.emod_eq_of_lt h0 (by omega)]
    · rw [if_neg a1, if_neg a1]
      by_cases a2 : c < 2048
      · rw [if_pos a2, if_pos a2, Int.emod_eq_of_lt (by omega) (show 192 + c / 64 < 256 by omega), Int.emod_eq_of_lt (by omega) (show 128 + c % 64 < 256 by omega)]
      · rw [if_neg a2, if_neg a2]
        by_cases a3 : c < 65536
        · rw [if_pos a3, if_pos a3, Int.emod_eq_of_lt (by omega) (show 224 + c / 4096 < 256 by omega), Int.emod_eq_of_lt (by omega) (show 128 + c / 64 % 64 < 256 by omega), Int.emod_eq_of_lt (by omega) (show 128 + c % 64 < 256 by omega)]
        · rw [if_neg a3, if_neg a3, Int.emod_eq_of_lt (by omega) (show 240 + c / 262144 < 256 by omega), Int.emod_eq_of_lt (by omega) (show 128 + c / 4096 % 64 < 256 by omega), Int.emod_eq_of_lt (by omega) (show 128 + c / 64 % 64 < 256 by omega), Int.emod_eq_of_lt (by omega) (show 128 + c % 64 < 256 by omega)]
theorem enc_range (c : Int) (h0 : 0 ≤ c) (h1 : c < 1114112) : ∀ x ∈ encI c, 0 ≤ x ∧ x < 256 := by
  unfold encI
  repeat' split
  all_goals
    intro x hx
    simp only [List.mem_cons, List.not_mem_nil, or_false] at hx
    omega

def res3 (o : Option (Nat × Nat)) : Int × Int × Int := match o with | none => (0, 0, 10) | some (c, n) => ((c : Int), (n : Int), 0)
/-- The end of the loop: as few bytes as can be. -/
theorem fin (s : ByteArray) (n : Nat) (c : Int) (h0 : 0 ≤ c) (h1 : c < 2097152) (hn : n ≤ s.size) :
    Ev (fun k => wharfref01_First.l0 k s (n : Int) c (n : Int)) (if sgn c = true ∧ encI c = (List.range n).map (fun i => (by_ s.data.toList i : Int)) then (c, (n : Int), 0) else (0, 0, 10)) := by
  refine Ev.step (fun k => ?_) (Ev.now _)
  simp only [wharfref01_First.l0]
  rw [if_neg (by omega), put_eq c h0 h1]
  simp only [Option.bind_some]
  cases hs : sgn c with
  | false => simp
  | true =>
    have hc : c ≤ 1114111 := by unfold sgn at hs; simp at hs; omega
    simp only [if_true, true_and]
    rw [if_pos (by omega), if_pos (by omega)]
    by_cases hl : (encI c).length = n
    · have hie := ints_eq s (encI c) (enc_range c h0 (by omega)) n hn hl (n : Int).toNat (by omega)
      by_cases he : encI c = (List.range n).map (fun i => (by_ s.data.toList i : Int))
      · rw [if_pos (hie.mpr he), if_pos he]
      · rw [if_neg (fun h => he (hie.mp h)), if_neg he]
    · have n1 : ¬ encI c = (List.range n).map (fun i => (by_ s.data.toList i : Int)) := fun h => hl (by rw [h]; simp)
      have n2 : ¬ (strOfNums (encI c)).toList = (s.extract 0 (n : Int).toNat).toList := fun h => hl (by
        have := congrArg List.length h
        rw [Lib.toList_data, Lib.toList_data, strOfNums_data, U.take_data, List.length_map, List.length_take, U.len_data] at this
        omega)
      rw [if_neg n1, if_neg n2]
theorem bad (s : ByteArray) (n i : Nat) (c : Int) (h : i < n) (hn : n ≤ s.size) (hb : ¬ (128 ≤ by_ s.data.toList i ∧ by_ s.data.toList i < 192)) :
    Ev (fun k => wharfref01_First.l0 k s (n : Int) c (i : Int)) (0, 0, 10) := by
  refine Ev.step (fun k => ?_) (Ev.now _)
  simp only [wharfref01_First.l0]
  rw [if_pos (by omega), if_pos (by omega), if_pos (by omega), bt_by s i _ rfl]
  by_cases a : (by_ s.data.toList i : Int) < 128
  · rw [if_pos a]
  · rw [if_neg a, if_pos (by omega)]
theorem more (s : ByteArray) (n i : Nat) (c : Int) (h : i < n) (hn : n ≤ s.size) (hb : 128 ≤ by_ s.data.toList i ∧ by_ s.data.toList i < 192) (h0 : 0 ≤ c) (h1 : c < 32768) (hs : s.size < 9000000000000000000) (r : Int × Int × Int)
    (hr : Ev (fun k => wharfref01_First.l0 k s (n : Int) (64 * c + (by_ s.data.toList i : Int) - 128) ((i + 1 : Nat) : Int)) r) :
    Ev (fun k => wharfref01_First.l0 k s (n : Int) c (i : Int)) r := by
  refine Ev.step (fun k => ?_) hr
  simp only [wharfref01_First.l0]
  rw [if_pos (by omega), if_pos (by omega), if_pos (by omega), bt_by s i _ rfl]
  rw [if_neg (by omega), if_neg (by omega), w64 (by_ s.data.toList i : Int) (by omega) (by omega), w64 (64 * c) (by omega) (by omega), w64 (64 * c + (by_ s.data.toList i : Int)) (by omega) (by omega), w64 (64 * c + (by_ s.data.toList i : Int) - 128) (by omega) (by omega), w64 ((i : Int) + 1) (by omega) (by omega)]
  rfl

theorem first_of (l : List UInt8) (c n : Nat) (h : dec l = (c, n)) (hl : 0 < l.length) (hn : ¬ (c = 65533 ∧ n = 1)) : first l = some (c, n) := by
  unfold first
  rw [if_neg (by omega), h, if_neg hn]
theorem first_no (l : List UInt8) (h : dec l = (65533, 1)) : first l = none := by
  unfold first
  split
  · rfl
  · rw [h, if_pos (by decide)]
theorem first_1 (l : List UInt8) (h : 0 < l.length) (hb : by_ l 0 < 128) : first l = some (by_ l 0, 1) := by
  refine first_of l _ _ ?_ h (by omega)
  unfold dec Lib.decodeN
  rw [if_pos hb]
theorem first_bad (l : List UInt8) (hb : (128 ≤ by_ l 0 ∧ by_ l 0 < 192) ∨ 248 ≤ by_ l 0) : first l = none := by
  have := by_lt l 0
  refine first_no l ?_
  unfold dec Lib.decodeN
  generalize by_ l 0 = b0 at *
  rw [if_neg (by omega), if_neg (by omega), if_neg (by omega), if_neg (by omega)]
theorem first_2 (l : List UInt8) (hb : 192 ≤ by_ l 0 ∧ by_ l 0 < 224) :
    first l = if 2 ≤ l.length ∧ (128 ≤ by_ l 1 ∧ by_ l 1 < 192) ∧ 194 ≤ by_ l 0 then some ((by_ l 0 - 192) * 64 + (by_ l 1 - 128), 2) else none := by
  have := by_lt l 1
  by_cases hc : 2 ≤ l.length ∧ (128 ≤ by_ l 1 ∧ by_ l 1 < 192) ∧ 194 ≤ by_ l 0
  · rw [if_pos hc]
    refine first_of l _ _ ?_ (by omega) (by omega)
    unfold dec Lib.decodeN
    have e : by_ l 0 % 32 * 64 + by_ l 1 % 64 = (by_ l 0 - 192) * 64 + (by_ l 1 - 128) := by omega
    rw [if_neg (by omega), if_pos (by omega), e, if_pos (by omega)]
  · rw [if_neg hc]
    refine first_no l ?_
    unfold dec Lib.decodeN
    rw [if_neg (by omega)]
    by_cases h6 : by_ l 0 / 32 = 6 ∧ (1 < l.length ∧ by_ l 1 / 64 = 2)
    · rw [if_pos h6, if_neg (by omega)]
    · rw [if_neg h6, if_neg (by omega), if_neg (by omega)]
theorem first_3 (l : List UInt8) (hb : 224 ≤ by_ l 0 ∧ by_ l 0 < 240) (c : Nat) (hc : c = (by_ l 0 - 224) * 4096 + (by_ l 1 - 128) * 64 + (by_ l 2 - 128)) :
    first l = if 3 ≤ l.length ∧ (128 ≤ by_ l 1 ∧ by_ l 1 < 192) ∧ (128 ≤ by_ l 2 ∧ by_ l 2 < 192) ∧ 2048 ≤ c ∧ (c < 55296 ∨ 57344 ≤ c) then some (c, 3) else none := by
  have := by_lt l 1
  have := by_lt l 2
  by_cases hk : 3 ≤ l.length ∧ (128 ≤ by_ l 1 ∧ by_ l 1 < 192) ∧ (128 ≤ by_ l 2 ∧ by_ l 2 < 192) ∧ 2048 ≤ c ∧ (c < 55296 ∨ 57344 ≤ c)
  · have e : by_ l 0 % 16 * 4096 + by_ l 1 % 64 * 64 + by_ l 2 % 64 = c := by omega
    rw [if_pos hk]
    refine first_of l _ _ ?_ (by omega) (by omega)
    unfold dec Lib.decodeN
    rw [if_neg (by omega), if_neg (by omega), if_pos (by omega), e, if_pos (by omega)]
  · rw [if_neg hk]
    refine first_no l ?_
    unfold dec Lib.decodeN
    rw [if_neg (by omega), if_neg (by omega)]
    by_cases h6 : by_ l 0 / 16 = 14 ∧ (1 < l.length ∧ by_ l 1 / 64 = 2) ∧ (2 < l.length ∧ by_ l 2 / 64 = 2)
    · have e : by_ l 0 % 16 * 4096 + by_ l 1 % 64 * 64 + by_ l 2 % 64 = c := by omega
      rw [if_pos h6, e, if_neg (by omega)]
    · rw [if_neg h6, if_neg (by omega)]
set_option maxRecDepth 100000 in
theorem first_4 (l : List UInt8) (hb : 240 ≤ by_ l 0 ∧ by_ l 0 < 248) (c : Nat) (hc : c = (by_ l 0 - 240) * 262144 + (by_ l 1 - 128) * 4096 + (by_ l 2 - 128) * 64 + (by_ l 3 - 128)) :
    first l = if 4 ≤ l.length ∧ (128 ≤ by_ l 1 ∧ by_ l 1 < 192) ∧ (128 ≤ by_ l 2 ∧ by_ l 2 < 192) ∧ (128 ≤ by_ l 3 ∧ by_ l 3 < 192) ∧ 65536 ≤ c ∧ c ≤ 1114111 then some (c, 4) else none := by
  have := by_lt l 1
  have := by_lt l 2
  have := by_lt l 3
  by_cases hk : 4 ≤ l.length ∧ (128 ≤ by_ l 1 ∧ by_ l 1 < 192) ∧ (128 ≤ by_ l 2 ∧ by_ l 2 < 192) ∧ (128 ≤ by_ l 3 ∧ by_ l 3 < 192) ∧ 65536 ≤ c ∧ c ≤ 1114111
  · have e : by_ l 0 % 8 * 262144 + by_ l 1 % 64 * 4096 + by_ l 2 % 64 * 64 + by_ l 3 % 64 = c := by omega
    rw [if_pos hk]
    refine first_of l _ _ ?_ (by omega) (by omega)
    unfold dec Lib.decodeN
    rw [if_neg (by omega), if_neg (by omega), if_neg (by omega), if_pos (by omega), e, if_pos (by omega)]
  · rw [if_neg hk]
    refine first_no l ?_
    unfold dec Lib.decodeN
    rw [if_neg (by omega), if_neg (by omega), if_neg (by omega)]
    by_cases h6 : by_ l 0 / 8 = 30 ∧ (1 < l.length ∧ by_ l 1 / 64 = 2) ∧ (2 < l.length ∧ by_ l 2 / 64 = 2) ∧ (3 < l.length ∧ by_ l 3 / 64 = 2)
    · have e : by_ l 0 % 8 * 262144 + by_ l 1 % 64 * 4096 + by_ l 2 % 64 * 64 + by_ l 3 % 64 = c := by omega
      rw [if_pos h6, e, if_neg (by omega)]
    · rw [if_neg h6]

theorem j2_lo (s : ByteArray) (n : Nat) (c : Int) (h : s.size < n) : Ev (fun k => wharfref01_First.j2 k s (n : Int) c) (0, 0, 10) := by
  refine Ev.step (fun k => ?_) (Ev.now _)
  simp only [wharfref01_First.j2]
  rw [if_pos (by omega)]
theorem j2_hi (s : ByteArray) (n : Nat) (c : Int) (h : n ≤ s.size) (r : Int × Int × Int) (hr : Ev (fun k => wharfref01_First.l0 k s (n : Int) c ((1 : Nat) : Int)) r) : Ev (fun k => wharfref01_First.j2 k s (n : Int) c) r := by
  refine Ev.step (fun k => ?_) hr
  simp only [wharfref01_First.j2]
  rw [if_neg (by omega)]; rfl

set_option maxRecDepth 100000 in
set_option maxHeartbeats 1000000 in
theorem first_ev (s : ByteArray) (hs : s.size < 9000000000000000000) : Ev (fun k => wharfref01_First.f k s) (res3 (first s.data.toList)) := by
  by_cases hz : s.size = 0
  · have hl : s.data.toList.length = 0 := by rw [U.len_data]; exact hz
    have e : first s.data.toList = none := by unfold first; rw [if_pos hl]
    rw [e]
    refine Ev.congr (f := fun _ => some (0, 0, 10)) (fun k => ?_) (Ev.now _)
    simp only [wharfref01_First.f]
    rw [if_pos (U.toList_nil s hz)]
  · have hl : s.data.toList.length = s.size := U.len_data s
    have hne : ¬ s.toList = [] := fun h => by
      have := congrArg List.length h
      rw [Lib.toList_data, hl] at this; exact hz (this.trans rfl)
    have lt0 := by_lt s.data.toList 0
    have lt1 := by_lt s.data.toList 1
    have lt2 := by_lt s.data.toList 2
    have lt3 := by_lt s.data.toList 3
    obtain ⟨b0, e0⟩ : ∃ b0, b0 = by_ s.data.toList 0 := ⟨_, rfl⟩
    obtain ⟨b1, e1⟩ : ∃ b1, b1 = by_ s.data.toList 1 := ⟨_, rfl⟩
    obtain ⟨b2, e2⟩ : ∃ b2, b2 = by_ s.data.toList 2 := ⟨_, rfl⟩
    obtain ⟨b3, e3⟩ : ∃ b3, b3 = by_ s.data.toList 3 := ⟨_, rfl⟩
    rw [← e0] at lt0
    rw [← e1] at lt1
    rw [← e2] at lt2
    rw [← e3] at lt3
    have hf : ∀ k, wharfref01_First.f k s = if (b0 : Int) < 128 then wharfref01_First.j2 k s ((1 : Nat) : Int) (b0 : Int) else if (b0 : Int) ≥ 192 then wharfref01_First.j0 k s (b0 : Int) (decide ((b0 : Int) < 224)) else wharfref01_First.j0 k s (b0 : Int) false := by
      intro k
      simp only [wharfref01_First.f]
      rw [if_neg hne, if_pos (by omega), bt_by s 0 0 rfl, ← e0, w64 (b0 : Int) (by omega) (by omega)]; rfl
    refine Ev.congr hf ?_
    by_cases c1 : b0 < 128
    · simp only [if_pos (show (b0 : Int) < 128 by omega)]
      refine j2_hi s 1 b0 (by omega) _ ?_
      have := fin s 1 (b0 : Int) (by omega) (by omega) (by omega)
      rw [first_1 _ (by omega) (by omega), ← e0]
      rw [if_pos] at this
      · exact this
      · refine ⟨by unfold sgn; simp; omega, ?_⟩
        unfold encI
        rw [if_pos (by omega)]
        simp [List.range_succ, ← e0]
    · simp only [if_neg (show ¬ (b0 : Int) < 128 by omega)]
      have hj0 : ∀ (d : Bool) (r : Int × Int × Int), (d = true → Ev (fun k => wharfref01_First.j2 k s ((2 : Nat) : Int) ((b0 : Int) - 192)) r) → (d = false → Ev (fun k => if (b0 : Int) ≥ 224 then (wharfref01_First.j1 k s (b0 : Int) (decide ((b0 : Int) < 240))) else (wharfref01_First.j1 k s (b0 : Int) false)) r) →
          Ev (fun k => wharfref01_First.j0 k s (b0 : Int) d) r := by
        intro d r h1 h2
        cases d with
        | true =>
          refine Ev.step (fun k => ?_) (h1 rfl)
          simp only [wharfref01_First.j0, if_true]
          rw [w64 _ (by omega) (by omega)]; rfl
        | false =>
          refine Ev.step (fun k => ?_) (h2 rfl)
          simp only [wharfref01_First.j0]
          rfl
      have hj1 : ∀ (d : Bool) (r : Int × Int × Int), (d = true → Ev (fun k => wharfref01_First.j2 k s ((3 : Nat) : Int) ((b0 : Int) - 224)) r) → (d = false → Ev (fun k => if (b0 : Int) ≥ 240 then (if (b0 : Int) < 248 then (wharfref01_First.j2 k s ((4 : Nat) : Int) ((b0 : Int) - 240)) else some (0, 0, 10)) else some (0, 0, 10)) r) →
          Ev (fun k => wharfref01_First.j1 k s (b0 : Int) d) r := by
        intro d r h1 h2
        cases d with
        | true =>
          refine Ev.step (fun k => ?_) (h1 rfl)
          simp only [wharfref01_First.j1, if_true]
          rw [w64 _ (by omega) (by omega)]; rfl
        | false =>
          refine Ev.step (fun k => ?_) (h2 rfl)
          simp only [wharfref01_First.j1]
          rw [if_neg (by decide), w64 ((b0 : Int) - 240) (by omega) (by omega)]; rfl
      by_cases c2 : b0 < 192
      · simp only [if_neg (show ¬ (b0 : Int) ≥ 192 by omega)]
        rw [first_bad _ (by omega)]
        refine hj0 false _ (fun h => by cases h) (fun _ => ?_)
        simp only [if_neg (show ¬ (b0 : Int) ≥ 224 by omega)]
        refine hj1 false _ (fun h => by cases h) (fun _ => ?_)
        simp only [if_neg (show ¬ (b0 : Int) ≥ 240 by omega)]
        exact Ev.now _
      · simp only [if_pos (show (b0 : Int) ≥ 192 by omega)]
        by_cases c3 : b0 < 224
        · rw [decide_eq_true (show (b0 : Int) < 224 by omega), first_2 _ (by omega), ← e0, ← e1]
          refine hj0 true _ (fun _ => ?_) (fun h => by cases h)
          by_cases z : 2 ≤ s.size
          · refine j2_hi s 2 _ z _ ?_
            by_cases q1 : 128 ≤ b1 ∧ b1 < 192
            · refine more s 2 1 _ (by omega) z (by rw [← e1]; exact q1) (by omega) (by omega) hs _ ?_
              rw [← e1]
              have := fin s 2 (64 * ((b0 : Int) - 192) + (b1 : Int) - 128) (by omega) (by omega) (by omega)
              have er : (List.range 2).map (fun i => (by_ s.data.toList i : Int)) = [(b0 : Int), (b1 : Int)] := by simp [List.range_succ, ← e0, ← e1]
              rw [er] at this
              refine cast (congrArg _ ?_) this
              by_cases q : 194 ≤ b0
              · rw [if_pos, if_pos (by omega)]
                · unfold res3; simp only; congr 1; omega
                · refine ⟨by unfold sgn; simp; omega, ?_⟩
                  unfold encI
                  rw [if_neg (by omega), if_pos (by omega)]
                  congr 1
                  · omega
                  · congr 1; omega
              · rw [if_neg, if_neg (by omega)]
                · rfl
                · rintro ⟨_, h⟩
                  unfold encI at h
                  rw [if_pos (by omega)] at h
                  simp at h
            · rw [if_neg (by omega)]
              exact bad s 2 1 _ (by omega) z (by rw [← e1]; exact q1)
          · rw [if_neg (by omega)]
            exact j2_lo s 2 _ (by omega)
        · rw [decide_eq_false (show ¬ (b0 : Int) < 224 by omega)]
          refine hj0 false _ (fun h => by cases h) (fun _ => ?_)
          simp only [if_pos (show (b0 : Int) ≥ 224 by omega)]
          by_cases c4 : b0 < 240
          · rw [decide_eq_true (show (b0 : Int) < 240 by omega), first_3 _ (by omega) _ rfl, ← e0, ← e1, ← e2]
            refine hj1 true _ (fun _ => ?_) (fun h => by cases h)
            by_cases z : 3 ≤ s.size
            · refine j2_hi s 3 _ z _ ?_
              by_cases q1 : 128 ≤ b1 ∧ b1 < 192
              · refine more s 3 1 _ (by omega) z (by rw [← e1]; exact q1) (by omega) (by omega) hs _ ?_
                rw [← e1]
                by_cases q2 : 128 ≤ b2 ∧ b2 < 192
                · refine more s 3 2 _ (by omega) z (by rw [← e2]; exact q2) (by omega) (by omega) hs _ ?_
                  rw [← e2]
                  have := fin s 3 (64 * (64 * ((b0 : Int) - 224) + (b1 : Int) - 128) + (b2 : Int) - 128) (by omega) (by omega) (by omega)
                  have er : (List.range 3).map (fun i => (by_ s.data.toList i : Int)) = [(b0 : Int), (b1 : Int), (b2 : Int)] := by simp [List.range_succ, ← e0, ← e1, ← e2]
                  rw [er] at this
                  refine cast (congrArg _ ?_) this
                  obtain ⟨c, hc⟩ : ∃ c, c = (b0 - 224) * 4096 + (b1 - 128) * 64 + (b2 - 128) := ⟨_, rfl⟩
                  have hcc : 64 * (64 * ((b0 : Int) - 224) + (b1 : Int) - 128) + (b2 : Int) - 128 = (c : Int) := by omega
                  rw [hcc, ← hc]
                  by_cases q : 2048 ≤ c ∧ (c < 55296 ∨ 57344 ≤ c)
                  · rw [if_pos, if_pos (by omega)]
                    · rfl
                    · refine ⟨by unfold sgn; simp; omega, ?_⟩
                      unfold encI
                      rw [if_neg (by omega), if_neg (by omega), if_pos (by omega)]
                      congr 1
                      · omega
                      · congr 1
                        · omega
                        · congr 1; omega
                  · rw [if_neg, if_neg (by omega)]
                    · rfl
                    · rintro ⟨h1, h⟩
                      unfold sgn at h1
                      simp at h1
                      unfold encI at h
                      split at h
                      · simp at h
                      · split at h
                        · simp at h
                        · omega
                · rw [if_neg (by omega)]
                  exact bad s 3 2 _ (by omega) z (by rw [← e2]; exact q2)
              · rw [if_neg (by omega)]
                exact bad s 3 1 _ (by omega) z (by rw [← e1]; exact q1)
            · rw [if_neg (by omega)]
              exact j2_lo s 3 _ (by omega)
          · rw [decide_eq_false (show ¬ (b0 : Int) < 240 by omega)]
            refine hj1 false _ (fun h => by cases h) (fun _ => ?_)
            simp only [if_pos (show (b0 : Int) ≥ 240 by omega)]
            by_cases c5 : b0 < 248
            · simp only [if_pos (show (b0 : Int) < 248 by omega)]
              rw [first_4 _ (by omega) _ rfl, ← e0, ← e1, ← e2, ← e3]
              by_cases z : 4 ≤ s.size
              · refine j2_hi s 4 _ z _ ?_
                by_cases q1 : 128 ≤ b1 ∧ b1 < 192
                · refine more s 4 1 _ (by omega) z (by rw [← e1]; exact q1) (by omega) (by omega) hs _ ?_
                  rw [← e1]
                  by_cases q2 : 128 ≤ b2 ∧ b2 < 192
                  · refine more s 4 2 _ (by omega) z (by rw [← e2]; exact q2) (by omega) (by omega) hs _ ?_
                    rw [← e2]
                    by_cases q3 : 128 ≤ b3 ∧ b3 < 192
                    · refine more s 4 3 _ (by omega) z (by rw [← e3]; exact q3) (by omega) (by omega) hs _ ?_
                      rw [← e3]
                      have := fin s 4 (64 * (64 * (64 * ((b0 : Int) - 240) + (b1 : Int) - 128) + (b2 : Int) - 128) + (b3 : Int) - 128) (by omega) (by omega) (by omega)
                      have er : (List.range 4).map (fun i => (by_ s.data.toList i : Int)) = [(b0 : Int), (b1 : Int), (b2 : Int), (b3 : Int)] := by simp [List.range_succ, ← e0, ← e1, ← e2, ← e3]
                      rw [er] at this
                      refine cast (congrArg _ ?_) this
                      obtain ⟨c, hc⟩ : ∃ c, c = (b0 - 240) * 262144 + (b1 - 128) * 4096 + (b2 - 128) * 64 + (b3 - 128) := ⟨_, rfl⟩
                      have hcc : 64 * (64 * (64 * ((b0 : Int) - 240) + (b1 : Int) - 128) + (b2 : Int) - 128) + (b3 : Int) - 128 = (c : Int) := by omega
                      rw [hcc, ← hc]
                      by_cases q : 65536 ≤ c ∧ c ≤ 1114111
                      · rw [if_pos, if_pos (by omega)]
                        · rfl
                        · refine ⟨by unfold sgn; simp; omega, ?_⟩
                          unfold encI
                          rw [if_neg (by omega), if_neg (by omega), if_neg (by omega)]
                          congr 1
                          · omega
                          · congr 1
                            · omega
                            · congr 1
                              · omega
                              · congr 1; omega
                      · rw [if_neg, if_neg (by omega)]
                        · rfl
                        · rintro ⟨h1, h⟩
                          unfold sgn at h1
                          simp at h1
                          unfold encI at h
                          split at h
                          · simp at h
                          · split at h
                            · simp at h
                            · split at h
                              · simp at h
                              · omega
                    · rw [if_neg (by omega)]
                      exact bad s 4 3 _ (by omega) z (by rw [← e3]; exact q3)
                  · rw [if_neg (by omega)]
                    exact bad s 4 2 _ (by omega) z (by rw [← e2]; exact q2)
                · rw [if_neg (by omega)]
                  exact bad s 4 1 _ (by omega) z (by rw [← e1]; exact q1)
              · rw [if_neg (by omega)]
                exact j2_lo s 4 _ (by omega)
            · simp only [if_neg (show ¬ (b0 : Int) < 248 by omega)]
              rw [first_bad _ (by omega)]
              exact Ev.now _
end Go.Proofs.YtnaimienfgpgmaaDoor.RaP

/- Addresses as plain functions on lists of bytes: no program in sight. -/
namespace Go.Proofs.YtnaimienfgpgmaaDoor.JidP
open GlyP Gly Strs

/-- An address: its three parts. -/
structure J where
  n : List UInt8
  d : List UInt8
  r : List UInt8
deriving DecidableEq

/-- Without a point at its end. -/
def trimPoint (l : List UInt8) : List UInt8 := if l.getLast? = some 46 then l.dropLast else l
def norm (j : J) : J := ⟨j.n.map low, trimPoint (j.d.map low), j.r⟩
def isPart (l : List UInt8) : Bool := decide (l.length ≤ 1023) && (isText l && l.all fun c => !(decide (c < 32) || c == 127))
def nodeBad : List UInt8 := [32, 34, 38, 39, 47, 58, 60, 62, 64]
def isNode (l : List UInt8) : Bool := l.all fun c => !(nodeBad.contains c)
def labelB (c : UInt8) : Bool := (decide (97 ≤ c) && decide (c ≤ 122)) || (decide (48 ≤ c) && decide (c ≤ 57)) || c == 45
def isLabel (l : List UInt8) : Bool := l.all labelB && !l.isEmpty
def ok (j : J) : Bool := norm j == j && (isPart j.n && (isPart j.d && (isPart j.r && (isNode j.n && (pieces 46 j.d).all isLabel))))
/-- An address's text. -/
def put (j : J) : List UInt8 := (if j.n = [] then j.d else j.n ++ [64] ++ j.d) ++ (if j.r = [] then [] else 47 :: j.r)
/-- The address of a text. -/
def parse (l : List UInt8) : Option J :=
  let b := foreB 47 l
  let two := b.contains 64
  let j := norm ⟨if two then foreB 64 b else [], if two then aftB 64 b else b, aftB 47 l⟩
  if (l.contains 47 && (aftB 47 l).isEmpty) || ((two && (foreB 64 b).isEmpty) || !(ok j)) then none else some j
end Go.Proofs.YtnaimienfgpgmaaDoor.JidP

/- wharfref01.Signs, wharfref03.text, in, first, Norm, as printed: what they come to. Plain. -/
set_option linter.unusedVariables false
set_option linter.unusedSimpArgs false
namespace Go.Proofs.YtnaimienfgpgmaaDoor.RaP
open Go.RowKit GlyP Go.Proofs.YtnaimienfgpgmaaDoorW.PrintWords Go.Proofs.YtnaimienfgpgmaaDoorW.PrintLast Go.Proofs.YtnaimienfgpgmaaDoorW.PrintMore Ra JidP

theorem plain_eq (c : Nat) : wharfref01_Plain.f (c : Int) = some (plain c) := by
  unfold wharfref01_Plain.f plain
  by_cases h9 : c = 9
  · subst h9; rfl
  · rw [if_neg (by omega)]
    by_cases h10 : c = 10
    · subst h10; rfl
    · rw [if_neg (by omega)]
      by_cases h13 : c = 13
      · subst h13; rfl
      · rw [if_neg (by omega)]
        have e1 : (c == 9) = false := by simpa using h9
        have e2 : (c == 10) = false := by simpa using h10
        have e3 : (c == 13) = false := by simpa using h13
        rw [e1, e2, e3]
        simp only [Bool.false_or]
        by_cases h32 : 32 ≤ c
        · rw [if_pos (by omega), decide_eq_true h32]
          by_cases h4 : c = 65534
          · subst h4; rfl
          · rw [if_neg (by omega)]
            have e4 : (c != 65534) = true := by simpa using h4
            have e5 : ((c : Int) != 65535) = (c != 65535) := by
              rw [Bool.eq_iff_iff]; simp only [bne_iff_ne]; omega
            rw [e4, e5]; rfl
        · rw [if_neg (by omega), decide_eq_false h32]; rfl

theorem drop_extract (s : ByteArray) (n : Nat) (j : Int) (h : j = (n : Int)) : (s.extract j.toNat s.size).data.toList = s.data.toList.drop n := by
  subst h; rw [U.drop_data]; simp
theorem size_drop (s : ByteArray) (n : Nat) (j : Int) (h : j = (n : Int)) : (s.extract j.toNat s.size).size = s.size - n := by
  rw [← U.len_data, drop_extract s n j h, List.length_drop, U.len_data]

def resS (acc : List Int) (o : Option (List Nat)) : List Int × Bool := match o with | none => ([], false) | some cs => (acc ++ cs.map (fun c : Nat => (c : Int)), true)
theorem signs_ev : ∀ (m : Nat) (s : ByteArray) (acc : List Int), s.size ≤ m → acc.length + s.size < 17592186044416 →
    Ev (fun k => wharfref01_Signs.l0 k s acc) (resS acc (signs s.data.toList.length s.data.toList)) := by
  intro m
  induction m with
  | zero =>
    intro s acc hm ha
    have e : s.data.toList = [] := by rw [← Lib.toList_data]; exact U.toList_nil s (by omega)
    refine Ev.step (fun k => ?_) (Ev.now _)
    simp only [wharfref01_Signs.l0]
    rw [if_pos (U.toList_nil s (by omega)), e]
    simp [signs, resS]
  | succ m ih =>
    intro s acc hm ha
    by_cases hz : s.size = 0
    · have e : s.data.toList = [] := by rw [← Lib.toList_data]; exact U.toList_nil s hz
      refine Ev.step (fun k => ?_) (Ev.now _)
      simp only [wharfref01_Signs.l0]
      rw [if_pos (U.toList_nil s hz), e]
      simp [signs, resS]
    · have hl : s.data.toList.length = s.size := U.len_data s
      have hne : ¬ s.toList = [] := fun h => by
        have := congrArg List.length h
        rw [Lib.toList_data, hl] at this; exact hz (this.trans rfl)
      obtain ⟨a, l, hal⟩ : ∃ a l, s.data.toList = a :: l := by
        cases h : s.data.toList with
        | nil => rw [h] at hl; simp at hl; omega
        | cons a l => exact ⟨a, l, rfl⟩
      refine Ev.step (fun k => by simp only [wharfref01_Signs.l0]; rw [if_neg hne]) ?_
      refine Ev.bind (first_ev s (by omega)) ?_
      have hs : signs s.data.toList.length s.data.toList = match first s.data.toList with | none => none | some (c, n) => if plain c then (signs (s.data.toList.drop n).length (s.data.toList.drop n)).map (c :: ·) else none := by
        rw [hal, List.length_cons]
        simp only [signs]
        cases ho : first (a :: l) with
        | none => rfl
        | some x =>
          obtain ⟨c, n⟩ := x
          have hfs := first_some _ _ _ ho
          simp only
          rw [signs_fuel l.length _ _ (by rw [List.length_drop, List.length_cons]; omega) (Nat.le_refl _)]
      rw [hs]
      cases ho : first s.data.toList with
      | none =>
        simp only [res3, resS]
        exact Ev.now _
      | some x =>
        obtain ⟨c, n⟩ := x
        have hfs := first_some _ _ _ ho
        rw [hl] at hfs
        simp only [res3, if_true]
        rw [plain_eq]
        simp only [Option.bind_some]
        cases hp : plain c with
        | false =>
          simp only [Bool.false_eq_true, if_false, resS]
          exact Ev.now _
        | true =>
          simp only [if_true]
          have g1 := eq_true (show acc.length < 17592186044416 by omega)
          have g2 := eq_true (show 0 ≤ (n : Int) by omega)
          have g3 := eq_true (show (n : Int) ≤ (s.size : Int) by omega)
          simp only [g1, g2, g3, if_true]
          have hsz := size_drop s n (n : Int) rfl
          have h := ih (s.extract (n : Int).toNat s.size) (acc ++ [(c : Int)]) (by omega) (by rw [List.length_append, hsz]; simp; omega)
          rw [drop_extract s n _ rfl] at h
          refine cast (congrArg _ ?_) h
          cases signs (s.data.toList.drop n).length (s.data.toList.drop n) with
          | none => rfl
          | some cs => simp [resS]

theorem first_bytes (l : List UInt8) (c n : Nat) (h : first l = some (c, n)) : (n = 1 ∧ c = by_ l 0 ∧ c < 128) ∨ (128 ≤ c ∧ ∀ i < n, 128 ≤ by_ l i) := by
  have hl : 0 < l.length := by have := first_some _ _ _ h; omega
  have := by_lt l 0
  by_cases c1 : by_ l 0 < 128
  · rw [first_1 l hl c1] at h
    obtain ⟨rfl, rfl⟩ := Prod.mk.inj (Option.some.inj h)
    exact .inl ⟨rfl, rfl, c1⟩
  · by_cases c2 : by_ l 0 < 192
    · rw [first_bad l (by omega)] at h; cases h
    · by_cases c3 : by_ l 0 < 224
      · rw [first_2 l (by omega)] at h
        split at h
        · obtain ⟨rfl, rfl⟩ := Prod.mk.inj (Option.some.inj h)
          refine .inr ⟨by omega, fun i hi => ?_⟩
          obtain rfl | rfl : i = 0 ∨ i = 1 := by omega
          all_goals omega
        · cases h
      · by_cases c4 : by_ l 0 < 240
        · rw [first_3 l (by omega) _ rfl] at h
          split at h
          · obtain ⟨rfl, rfl⟩ := Prod.mk.inj (Option.some.inj h)
            refine .inr ⟨by omega, fun i hi => ?_⟩
            obtain rfl | rfl | rfl : i = 0 ∨ i = 1 ∨ i = 2 := by omega
            all_goals omega
          · cases h
        · by_cases c5 : by_ l 0 < 248
          · rw [first_4 l (by omega) _ rfl] at h
            split at h
            · obtain ⟨rfl, rfl⟩ := Prod.mk.inj (Option.some.inj h)
              refine .inr ⟨by omega, fun i hi => ?_⟩
              obtain rfl | rfl | rfl | rfl : i = 0 ∨ i = 1 ∨ i = 2 ∨ i = 3 := by omega
              all_goals omega
            · cases h
          · rw [first_bad l (by omega)] at h; cases h

def okB (b : UInt8) : Bool := !(decide (b < 32) || b == 127)
def okC (c : Nat) : Bool := !(decide (c < 32) || c == 127)
theorem okB_eq (b : UInt8) : okB b = okC b.toNat := by
  unfold okB okC
  have e1 : decide (b < 32) = decide (b.toNat < 32) := by
    rw [Bool.eq_iff_iff]; simp only [decide_eq_true_eq]; exact UInt8.lt_iff_toNat_lt
  have e2 : (b == 127) = (b.toNat == 127) := by
    rw [Bool.eq_iff_iff]; simp only [beq_iff_eq]; rw [← UInt8.toNat_inj]; rfl
  rw [e1, e2]
theorem okC_big (c : Nat) (h : 128 ≤ c) : okC c = true := by unfold okC; simp; omega
theorem by_at (l : List UInt8) (i : Nat) (h : i < l.length) : by_ l i = l[i].toNat := by
  unfold by_; rw [List.getD_eq_getElem?_getD, List.getElem?_eq_getElem h]; rfl
theorem all_signs : ∀ (f : Nat) (l : List UInt8) (cs : List Nat), signs f l = some cs → cs.all okC = l.all okB
  | _, [], cs, h => by simp [signs] at h; subst h; rfl
  | 0, _ :: _, cs, h => by simp [signs] at h
  | f + 1, a :: l, cs, h => by
    simp only [signs] at h
    cases ho : first (a :: l) with
    | none => rw [ho] at h; cases h
    | some x =>
      obtain ⟨c, n⟩ := x
      rw [ho] at h
      simp only at h
      have hfs := first_some _ _ _ ho
      have hb := first_bytes _ _ _ ho
      cases hp : plain c with
      | false => rw [hp] at h; cases h
      | true =>
        rw [hp] at h
        simp only [if_true] at h
        cases hr : signs f ((a :: l).drop n) with
        | none => rw [hr] at h; cases h
        | some ds =>
          rw [hr] at h
          obtain rfl := Option.some.inj h
          have ih := all_signs f _ ds hr
          rw [List.all_cons, ih]
          conv => rhs; rw [← List.take_append_drop n (a :: l)]
          rw [List.all_append]
          congr 1
          rcases hb with ⟨rfl, hc, hlt⟩ | ⟨hc, hi⟩
          · rw [List.take_succ_cons, List.take_zero, List.all_cons, List.all_nil, Bool.and_true, okB_eq, hc, by_at _ 0 (by simp)]; rfl
          · rw [okC_big c hc]
            symm
            rw [List.all_eq_true]
            intro b hbm
            obtain ⟨i, hil, rfl⟩ := List.getElem_of_mem hbm
            rw [okB_eq]
            apply okC_big
            rw [List.length_take] at hil
            have := hi i (by omega)
            rw [by_at _ i (by omega)] at this
            rw [List.getElem_take]; exact this

theorem rd_get (cs : List Nat) (i : Nat) (h : i < cs.length) (j : Int) (hj : j = i) : rd (cs.map fun c : Nat => (c : Int)) j = (cs[i] : Int) := by
  subst hj
  unfold rd
  rw [List.getD_eq_getElem?_getD, List.getElem?_eq_getElem (by simpa using h)]; simp
theorem text_loop (cs : List Nat) (hl : cs.length < 9000000000000000000) : ∀ (d i : Nat), i + d = cs.length →
    Ev (fun k => wharfref03_text.l0 k (cs.map fun c : Nat => (c : Int)) (i : Int)) ((cs.drop i).all okC) := by
  intro d
  induction d with
  | zero =>
    intro i hi
    refine Ev.step (fun k => ?_) (Ev.now _)
    simp only [wharfref03_text.l0]
    rw [if_neg (by simp; omega), List.drop_of_length_le (by omega)]; rfl
  | succ d ih =>
    intro i hi
    have hil : i < cs.length := by omega
    rw [List.drop_eq_getElem_cons hil, List.all_cons]
    cases ho : okC cs[i] with
    | false =>
      refine Ev.step (fun k => ?_) (Ev.now _)
      simp only [wharfref03_text.l0]
      rw [if_pos (by simp; omega), if_pos (by omega), rd_get cs i hil _ rfl]
      unfold okC at ho
      simp at ho
      by_cases h : cs[i] < 32
      · rw [if_pos (by omega)]; rfl
      · rw [if_neg (by omega), if_pos (by omega)]; rfl
    | true =>
      refine Ev.step (fun k => ?_) (ih (i + 1) (by omega))
      simp only [wharfref03_text.l0]
      unfold okC at ho
      simp at ho
      rw [if_pos (by simp; omega), if_pos (by omega), rd_get cs i hil _ rfl, if_neg (by omega), if_neg (by omega), w64 _ (by omega) (by omega)]
      rfl
theorem signs_len : ∀ (f : Nat) (l : List UInt8) (cs : List Nat), signs f l = some cs → cs.length ≤ l.length
  | _, [], cs, h => by simp [signs] at h; subst h; exact Nat.le_refl _
  | 0, _ :: _, cs, h => by simp [signs] at h
  | f + 1, a :: l, cs, h => by
    simp only [signs] at h
    cases ho : first (a :: l) with
    | none => rw [ho] at h; cases h
    | some x =>
      obtain ⟨c, n⟩ := x
      rw [ho] at h
      simp only at h
      have hfs := first_some _ _ _ ho
      split at h
      · cases hr : signs f ((a :: l).drop n) with
        | none => rw [hr] at h; cases h
        | some ds =>
          rw [hr] at h
          obtain rfl := Option.some.inj h
          have ih := signs_len f _ ds hr
          rw [List.length_drop] at ih
          rw [List.length_cons]; omega
      · cases h
theorem text_ev (s : ByteArray) (hs : s.size < 17592186044416) : Ev (fun k => wharfref03_text.f k s) (isPart s.data.toList) := by
  have hS := signs_ev s.size s [] (Nat.le_refl _) (by simp; omega)
  refine Ev.congr (g := fun k => wharfref03_text.f k s) (fun k => by unfold wharfref03_text.f wharfref01_Signs.f; rfl) ?_
  refine Ev.bind hS ?_
  have hle : decide (s.data.toList.length ≤ 1023) = !(decide ((s.size : Int) > 1023)) := by
    rw [U.len_data, Bool.eq_iff_iff]; simp; omega
  unfold isPart isText
  rw [hle]
  cases ho : signs s.data.toList.length s.data.toList with
  | none =>
    simp only [resS, Bool.false_eq_true, if_false]
    refine Ev.step (f := fun _ => some false) (fun k => by simp only [wharfref03_text.j0, if_true]) ?_
    simp
    exact Ev.now _
  | some cs =>
    simp only [resS, if_true, List.nil_append]
    by_cases hb : (s.size : Int) > 1023
    · rw [decide_eq_true hb]
      refine Ev.step (f := fun _ => some false) (fun k => by simp only [wharfref03_text.j0, if_true]) ?_
      exact Ev.now _
    · rw [decide_eq_false hb]
      refine Ev.step (f := fun k => wharfref03_text.l0 k (cs.map fun c : Nat => (c : Int)) 0) (fun k => by simp only [wharfref03_text.j0, Bool.false_eq_true, if_false]) ?_
      have hcl := signs_len _ _ _ ho
      rw [U.len_data] at hcl
      have h := text_loop cs (by omega) cs.length 0 (by omega)
      rw [List.drop_zero, all_signs _ _ _ ho] at h
      exact h

theorem u8_eq (b c : UInt8) : ((b.toNat : Int) = (c.toNat : Int)) ↔ b = c := by rw [← UInt8.toNat_inj]; omega
theorem bt_get (s : ByteArray) (i : Nat) (h : i < s.size) (j : Int) (hj : j = i) : bt s j = ((s[i].toNat : Nat) : Int) := by
  subst hj; unfold bt; rw [dif_pos (by simpa using h)]; rfl
theorem in_loop (s : ByteArray) (c : UInt8) (hs : s.size < 9000000000000000000) : ∀ (d i : Nat), i + d = s.size →
    Ev (fun k => wharfref03_in.l0 k (c.toNat : Int) s (i : Int)) ((s.data.toList.drop i).contains c) := by
  intro d
  induction d with
  | zero =>
    intro i hi
    refine Ev.step (fun k => ?_) (Ev.now _)
    simp only [wharfref03_in.l0]
    rw [if_neg (by omega), List.drop_of_length_le (by rw [U.len_data]; omega)]; rfl
  | succ d ih =>
    intro i hi
    rw [U.u8_at s i (by omega), List.contains_cons]
    by_cases h : s[i] = c
    · refine Ev.step (fun k => ?_) (Ev.now _)
      simp only [wharfref03_in.l0]
      rw [if_pos (by omega), if_pos (by omega), bt_get s i (by omega) _ rfl, if_pos (by rw [u8_eq]; exact h), h]; simp
    · have e : (c == s[i]) = false := by rw [beq_eq_false_iff_ne]; exact fun h2 => h h2.symm
      rw [e, Bool.false_or]
      refine Ev.step (fun k => ?_) (ih (i + 1) (by omega))
      simp only [wharfref03_in.l0]
      rw [if_pos (by omega), if_pos (by omega), bt_get s i (by omega) _ rfl, if_neg (by rw [u8_eq]; exact h), w64 _ (by omega) (by omega)]; rfl
theorem in_ev (s : ByteArray) (c : UInt8) (hs : s.size < 9000000000000000000) : Ev (fun k => wharfref03_in.f k (c.toNat : Int) s) (s.data.toList.contains c) := by
  have := in_loop s c hs s.size 0 (by omega)
  rw [List.drop_zero] at this
  exact this
/-- The place of a byte; -1: it is not there. -/
def place (c : UInt8) (l : List UInt8) : Int := if l.contains c then ((Strs.foreB c l).length : Int) else -1
theorem getLast_at (l : List UInt8) (h : 0 < l.length) : l.getLast? = some (l[l.length - 1]'(by omega)) := by
  rw [List.getLast?_eq_getElem?, List.getElem?_eq_getElem (by omega)]
end Go.Proofs.YtnaimienfgpgmaaDoor.RaP

/- jid's functions at this translation: Norm, With, Bare, Put, isPart, isNode, isLabel, Check, Parse: what they return, for every address whose parts have at most 2^36 bytes. -/
set_option linter.unusedVariables false
set_option linter.unusedSimpArgs false
namespace Go.Proofs.YtnaimienfgpgmaaDoor.Jid
open Go.RowKit GlyP Gly Strs JidP

/-- A part's bytes as a string. -/
def S (l : List UInt8) : Value := .string ⟨l.toArray⟩
/-- An address as a value. -/
def V (j : J) : Value := .agg #[S j.n, S j.d, S j.r]
def Small (j : J) : Prop := j.n.length ≤ 68719476736 ∧ j.d.length ≤ 68719476736 ∧ j.r.length ≤ 68719476736

set_option maxHeartbeats 1000000 in
theorem Norm_any (a b c : ByteArray) (ha : a.size ≤ 68719476736) (hb : b.size ≤ 68719476736) (w : World) :
    Calls Tryd.prog 42 #[.agg #[.string a, .string b, .string c]] w fun e w' => e = .returned (.agg #[.string ⟨(a.data.toList.map low).toArray⟩, .string ⟨(trimPoint (b.data.toList.map low)).toArray⟩, .string c]) ∧ Below w.heap.size w w' := by
  have hl := fun (s : ByteArray) (h : s.size ≤ 68719476736) => (show (⟨(s.data.toList.map low).toArray⟩ : ByteArray).size ≤ 140737488355328 from by
    rw [← U.len_data]; simp; omega)
  have HL := Lib.hid (hl b hb)
  clear hl
  go_enter Tryd.func42, Tryd.ntmps42
  go_wp2_with fail
  refine (Fold_any a (by omega) _).mono ?_
  rintro e w1 ⟨rfl, hb1⟩
  have a0 := ((U.At.new w 30 #[.string a, .string b, .string c]).alloc (.cells #[.string ⟨#[]⟩, .string ⟨#[]⟩, .string ⟨#[]⟩] 30)).below hb1
  have r0 := (U.At.new (w.alloc (.cells #[.string a, .string b, .string c] 30)) 30 #[.string ⟨#[]⟩, .string ⟨#[]⟩, .string ⟨#[]⟩]).below hb1
  simp only [World.size_alloc] at r0
  have b0 : Below w.heap.size w w1 := (((Below.refl _ w).alloc (Nat.le_refl _) _).alloc (by simp) _).trans (hb1.mono (by simp; omega))
  obtain ⟨A, hA⟩ : ∃ A : ByteArray, A = ⟨(a.data.toList.map low).toArray⟩ := ⟨_, rfl⟩
  rw [← hA]
  have HA := Lib.hid hA; clear hA hb1
  have a1 := a0.set 0 (.string A)
  have r1 := r0.other ⟨w.heap.size, 0, none⟩ (.string A) (by simp)
  have b1 := b0.setCell (p := ⟨w.heap.size, 0, none⟩) (Nat.le_refl _) (.string A)
  have c00 := a0.cell 0 _ rfl
  have c01 := a0.cell 1 _ rfl
  have f00 := a0.free 0
  go_wp2_with fail
  refine (Fold_any b (by omega) _).mono ?_
  rintro e w2 ⟨rfl, hb2⟩
  go_wp2_with fail
  refine (TrimSuffix_one 46 _ HL.out _).mono ?_
  rintro e w3 ⟨rfl, rfl⟩
  have a2 := a1.below hb2
  have r2 := r1.below hb2
  have b2 := b1.trans (hb2.mono b1.size)
  obtain ⟨B, hB⟩ : ∃ B : ByteArray, B = ⟨(trimPoint (b.data.toList.map low)).toArray⟩ := ⟨_, rfl⟩
  rw [show (if (⟨(b.data.toList.map low).toArray⟩ : ByteArray).data.toList.getLast? = some 46 then (⟨(b.data.toList.map low).toArray⟩ : ByteArray).data.toList.dropLast else (⟨(b.data.toList.map low).toArray⟩ : ByteArray).data.toList) = trimPoint (b.data.toList.map low) from rfl, ← hB]
  have HB := Lib.hid hB; clear hB hb2
  have c10 := U.At.cell a2 0 (.string A) rfl
  have c11 := U.At.cell a2 1 (.string b) rfl
  have c12 := U.At.cell a2 2 (.string c) rfl
  have f11 := U.At.free a2 1
  have d0 := r2.cell 0 _ rfl
  have d1 := r2.cell 1 _ rfl
  have d2 := r2.cell 2 _ rfl
  have g0 := r2.free 0
  have g1 := r2.free 1
  have g2 := r2.free 2
  clear c00 c01 f00
  go_wp2
  refine bodyPost_ret (v := .agg #[.string A, .string B, .string c]) (by simp [results, Tryd.results42, go_sem, c10, c11, c12, d0, d1, d2]) rfl ⟨by rw [HA.out, HB.out], ?_⟩
  repeat (first | exact b2 | (refine Below.setCell ?_ (by simp) _))


theorem ba_nil (s : ByteArray) (h : s.size = 0) : s = ⟨#[]⟩ := by
  rw [U.mk_data s [] (by rw [← Lib.toList_data]; exact U.toList_nil s h)]
theorem app_nil (s : ByteArray) : s ++ ⟨#[]⟩ = s := by
  show s ++ ByteArray.empty = s
  simp
/-- The text as the code puts it together. -/
def putB (a b c : ByteArray) : ByteArray := (if a.size = 0 then b else (a ++ ⟨#[64]⟩) ++ b) ++ (if c.size = 0 then ⟨#[]⟩ else ⟨#[47]⟩ ++ c)

theorem isPart_step (s : ByteArray) (k : Nat) (h : k < s.size) (p : UInt8 → Bool) : (s.data.toList.drop k).all p = (p s[k] && (s.data.toList.drop (k + 1)).all p) := by
  rw [U.u8_at s k h]; rfl
theorem all_end (s : ByteArray) (k : Nat) (h : k = s.size) (p : UInt8 → Bool) : (s.data.toList.drop k).all p = true := by
  rw [h, List.drop_eq_nil_of_le (by rw [U.len_data]; omega)]; rfl

set_option maxHeartbeats 1000000 in
theorem isPart_any (s : ByteArray) (hs : s.size ≤ 68719476736) (w : World) :
    Calls Tryd.prog 43 #[.string s] w fun e w' => e = .returned (.bool (isPart s.data.toList)) ∧ Below w.heap.size w w' := by
  by_cases hlen : (1023 : Int) < s.size
  · have HV := Lib.hid (show isPart s.data.toList = false from by unfold isPart; rw [U.len_data, decide_eq_false (by omega)]; rfl)
    go_enter Tryd.func43, Tryd.ntmps43
    go_wp2
    go_ret
    exact ⟨by rw [HV.out]; rfl, Below.refl _ _⟩
  · have hd : decide (s.data.toList.length ≤ 1023) = true := decide_eq_true (by rw [U.len_data]; omega)
    cases ht : isText s.data.toList with
    | false =>
      have HV := Lib.hid (show isPart s.data.toList = false from by unfold isPart; rw [hd, ht]; rfl)
      have hC := fun w => Check_any s (by omega) w
      rw [ht, if_neg (by decide)] at hC
      have HC := Lib.hid hC
      clear ht hd hC
      go_enter Tryd.func43, Tryd.ntmps43
      go_wp2_with fail
      refine (HC.out _).mono ?_
      rintro e w1 ⟨rfl, hb⟩
      go_wp2
      go_ret
      exact ⟨by rw [HV.out]; rfl, hb⟩
    | true =>
      have HV := Lib.hid (show isPart s.data.toList = s.data.toList.all (fun c => !(decide (c < 32) || c == 127)) from by unfold isPart; rw [hd, ht]; rfl)
      have hC := fun w => Check_any s (by omega) w
      rw [ht, if_pos rfl] at hC
      have HC := Lib.hid hC
      clear ht hd hC
      go_enter Tryd.func43, Tryd.ntmps43
      go_wp2_with fail
      refine (HC.out _).mono ?_
      rintro e w1 ⟨rfl, hb⟩
      go_wp2
      go_loop [14] (fun i => ∃ k : Nat, k ≤ s.size ∧ i = .int .i64 k ∧ Hid (isPart s.data.toList = (s.data.toList.drop k).all (fun c => !(decide (c < 32) || c == 127)))) (fun i => s.size - (intOf i).toNat)
      case atStart => exact ⟨0, by omega, rfl, HV⟩
      case round =>
        obtain ⟨k, hk, rfl, HA⟩ := hrel
        by_cases hlt : k < s.size
        · have HS := Lib.hid (isPart_step s k hlt (fun c => !(decide (c < 32) || c == 127)))
          have e32 : decide (s[k] < 32) = decide ((s[k].toNat : Int) < 32) := by
            rw [decide_eq_decide, UInt8.lt_iff_toNat_lt]; simp; omega
          have e127 : (s[k] == 127) = ((s[k].toNat : Int) == 127) := (U.beq_u8 s[k] 127).symm
          have E32 := Lib.hid e32
          have E127 := Lib.hid e127
          clear e32 e127
          by_cases h1 : (s[k].toNat : Int) < 32
          · go_wp2
            go_ret
            exact ⟨by rw [HA.out, HS.out, E32.out, decide_eq_true h1]; rfl, hb⟩
          · cases h2 : ((s[k].toNat : Int) == 127) with
            | true =>
              go_wp2
              go_ret
              exact ⟨by rw [HA.out, HS.out, E32.out, E127.out, h2, Bool.or_true]; rfl, hb⟩
            | false =>
              have H2 := Lib.hid h2
              have H1 := Lib.hid (decide_eq_false h1)
              go_wp2
              go_round
              case rel => exact ⟨k + 1, by omega, by go_num, Lib.hid (by rw [HA.out, HS.out, E32.out, E127.out, H2.out, H1.out]; rfl)⟩
              case measure => simp [intOf]; omega
        · have hkk : k = s.size := by omega
          have HE := Lib.hid (all_end s k hkk (fun c => !(decide (c < 32) || c == 127)))
          clear hkk
          go_wp2
          go_ret
          exact ⟨by rw [HA.out, HE.out]; rfl, hb⟩


def nodeS : ByteArray := ⟨#[32, 34, 38, 39, 47, 58, 60, 62, 64]⟩
def Idx (w : World) (b : Bool) (e : Ending) (w' : World) : Prop := (∃ k : Int, e = .returned (.int .i64 k) ∧ (decide (0 ≤ k)) = b) ∧ w = w'
theorem index_node (c : UInt8) (w : World) : Calls Tryd.prog 62 #[.string ⟨#[32, 34, 38, 39, 47, 58, 60, 62, 64]⟩, .int .u8 (c.toNat : Int)] w (Idx w (nodeBad.contains c)) :=
  IndexByte_has nodeS c _ rfl w

set_option maxHeartbeats 1000000 in
theorem isNode_any (s : ByteArray) (hs : s.size ≤ 68719476736) (w : World) :
    Calls Tryd.prog 44 #[.string s] w fun e w' => e = .returned (.bool (isNode s.data.toList)) ∧ w = w' := by
  go_enter Tryd.func44, Tryd.ntmps44
  go_wp2_with fail
  go_loop [6] (fun i => ∃ k : Nat, k ≤ s.size ∧ i = .int .i64 k ∧ Hid (isNode s.data.toList = (s.data.toList.drop k).all (fun c => !(nodeBad.contains c)))) (fun i => s.size - (intOf i).toNat)
  case atStart => exact ⟨0, by omega, rfl, Lib.hid rfl⟩
  case round =>
    obtain ⟨k, hk, rfl, HA⟩ := hrel
    by_cases hlt : k < s.size
    · have HS := Lib.hid (isPart_step s k hlt (fun c => !(nodeBad.contains c)))
      go_wp2_with fail
      refine (index_node _ _).mono ?_
      rintro e w1 ⟨⟨z, rfl, hz⟩, rfl⟩
      have HZ := Lib.hid hz
      clear hz
      by_cases h0 : 0 ≤ z
      · have hb : nodeBad.contains s[k] = true := by rw [← HZ.out]; exact decide_eq_true h0
        have HB := Lib.hid hb; clear hb
        go_wp2
        go_ret
        exact ⟨by rw [HA.out, HS.out, HB.out]; rfl, rfl⟩
      · have hb : nodeBad.contains s[k] = false := by rw [← HZ.out]; exact decide_eq_false h0
        have HB := Lib.hid hb; clear hb
        go_wp2
        go_round
        case rel => exact ⟨k + 1, by omega, by go_num, Lib.hid (by rw [HA.out, HS.out, HB.out]; rfl)⟩
        case measure => simp [intOf]; omega
    · have hkk : k = s.size := by omega
      have HE := Lib.hid (all_end s k hkk (fun c => !(nodeBad.contains c)))
      clear hkk
      go_wp2
      go_ret
      exact ⟨by rw [HA.out, HE.out]; rfl, rfl⟩

theorem label_int (c : UInt8) : labelB c = ((decide (97 ≤ (c.toNat : Int)) && decide ((c.toNat : Int) ≤ 122)) || (decide (48 ≤ (c.toNat : Int)) && decide ((c.toNat : Int) ≤ 57)) || ((c.toNat : Int) == 45)) := by
  unfold labelB
  have e1 : (97 ≤ c) ↔ ((97 : Int) ≤ (c.toNat : Int)) := by rw [UInt8.le_iff_toNat_le]; simp; omega
  have e2 : (c ≤ 122) ↔ ((c.toNat : Int) ≤ 122) := by rw [UInt8.le_iff_toNat_le]; simp; omega
  have e3 : (48 ≤ c) ↔ ((48 : Int) ≤ (c.toNat : Int)) := by rw [UInt8.le_iff_toNat_le]; simp; omega
  have e4 : (c ≤ 57) ↔ ((c.toNat : Int) ≤ 57) := by rw [UInt8.le_iff_toNat_le]; simp; omega
  rw [decide_eq_decide.2 e1, decide_eq_decide.2 e2, decide_eq_decide.2 e3, decide_eq_decide.2 e4, ← U.beq_u8]
  rfl

set_option maxHeartbeats 2000000 in
theorem isLabel_any (s : ByteArray) (hs : s.size ≤ 68719476736) (w : World) :
    Calls Tryd.prog 46 #[.string s] w fun e w' => e = .returned (.bool (isLabel s.data.toList)) ∧ w = w' := by
  go_enter Tryd.func46, Tryd.ntmps46
  go_wp2_with fail
  go_loop [7] (fun i => ∃ k : Nat, k ≤ s.size ∧ i = .int .i64 k ∧ Hid (s.data.toList.all labelB = (s.data.toList.drop k).all labelB)) (fun i => s.size - (intOf i).toNat)
  case atStart => exact ⟨0, by omega, rfl, Lib.hid rfl⟩
  case round =>
    obtain ⟨k, hk, rfl, HA⟩ := hrel
    by_cases hlt : k < s.size
    · have HS := Lib.hid (isPart_step s k hlt labelB)
      have HL := Lib.hid (label_int s[k])
      obtain ⟨x, hx⟩ : ∃ x : Int, x = (s[k].toNat : Int) := ⟨_, rfl⟩
      by_cases h1 : 97 ≤ x ∧ x ≤ 122
      · have hb : labelB s[k] = true := by rw [HL.out, ← hx, decide_eq_true h1.1, decide_eq_true h1.2]; rfl
        have HB := Lib.hid hb
        rw [hx] at h1
        obtain ⟨h1, h2⟩ := h1
        clear hb hx
        go_wp2
        go_round
        case rel => exact ⟨k + 1, by omega, by go_num, Lib.hid (by rw [HA.out, HS.out, HB.out]; rfl)⟩
        case measure => simp [intOf]; omega
      · by_cases h2 : 48 ≤ x ∧ x ≤ 57
        · have hb : labelB s[k] = true := by rw [HL.out, ← hx, decide_eq_true h2.1, decide_eq_true h2.2]; simp
          have HB := Lib.hid hb
          have h97 : (s[k].toNat : Int) < 97 := by omega
          rw [hx] at h2
          obtain ⟨h3, h4⟩ := h2
          clear hb hx h1
          go_wp2
          go_round
          case rel => exact ⟨k + 1, by omega, by go_num, Lib.hid (by rw [HA.out, HS.out, HB.out]; rfl)⟩
          case measure => simp [intOf]; omega
        · have hfal : (decide (97 ≤ x) && decide (x ≤ 122)) = false ∧ (decide (48 ≤ x) && decide (x ≤ 57)) = false := by
            constructor
            · rw [Bool.eq_false_iff]; intro h; rw [Bool.and_eq_true, decide_eq_true_eq, decide_eq_true_eq] at h; exact h1 h
            · rw [Bool.eq_false_iff]; intro h; rw [Bool.and_eq_true, decide_eq_true_eq, decide_eq_true_eq] at h; exact h2 h
          cases h45 : (x == 45) with
          | true =>
            have hb : labelB s[k] = true := by rw [HL.out, ← hx, hfal.1, hfal.2, h45]; rfl
            have HB := Lib.hid hb
            have hx45 : x = 45 := by simpa using h45
            have hk45 : (s[k].toNat : Int) = 45 := by omega
            clear hb hx h1 h2 h45 hfal hx45
            go_wp2
            go_round
            case rel => exact ⟨k + 1, by omega, by go_num, Lib.hid (by rw [HA.out, HS.out, HB.out]; rfl)⟩
            case measure => simp [intOf]; omega
          | false =>
            have hb : labelB s[k] = false := by rw [HL.out, ← hx, hfal.1, hfal.2, h45]; rfl
            have HB := Lib.hid hb
            rw [hx] at h45
            have hne : ((s[k].toNat : Int) != 45) = true := by rw [bne, h45]; rfl
            have HV := Lib.hid (show isLabel s.data.toList = false from by rw [isLabel, HA.out, HS.out, hb]; rfl)
            rw [hx] at h1 h2
            clear hb hx hfal
            by_cases g1 : (s[k].toNat : Int) < 97
            · by_cases g2 : (s[k].toNat : Int) < 48
              · clear h1 h2
                go_wp2
                go_ret
                exact ⟨by rw [HV.out]; rfl, rfl⟩
              · have g3 : (57 : Int) < (s[k].toNat : Int) := by omega
                clear h1 h2
                go_wp2
                go_ret
                exact ⟨by rw [HV.out]; rfl, rfl⟩
            · have g3 : (122 : Int) < (s[k].toNat : Int) := by omega
              have g4 : ¬ (s[k].toNat : Int) < 48 := by omega
              have g5 : (57 : Int) < (s[k].toNat : Int) := by omega
              clear h1 h2
              go_wp2
              go_ret
              exact ⟨by rw [HV.out]; rfl, rfl⟩
    · have hkk : k = s.size := by omega
      have HE := Lib.hid (all_end s k hkk labelB)
      clear hkk
      rcases Nat.eq_zero_or_pos s.size with h0 | h0
      · have e1 := U.toList_nil s h0
        have HV := Lib.hid (show isLabel s.data.toList = false from by rw [isLabel, ← Lib.toList_data, e1]; rfl)
        clear h0
        go_wp2
        go_ret
        exact ⟨by rw [HV.out]; rfl, rfl⟩
      · have e1 := U.isEmpty_false s h0
        have HV := Lib.hid (show isLabel s.data.toList = true from by rw [isLabel, HA.out, HE.out, ← Lib.toList_data, e1]; rfl)
        go_wp2
        go_ret
        exact ⟨by rw [HV.out]; rfl, rfl⟩

end Go.Proofs.YtnaimienfgpgmaaDoor.Jid

/- A region that draws its order, whose operations only read and whose callees keep S: walked once, in the order of the text. -/
set_option linter.unusedVariables false
set_option linter.unusedSimpArgs false
namespace Go.Proofs.YtnaimienfgpgmaaDoor.U
open Go.RowKit
/-- A world that holds S. -/
structure In (S : World → Prop) where
  w : World
  h : S w
theorem region_in {S : World → Prop} {P : Program} {id : Nat} {Q : Exit → Act → World → Prop} {a : Act} {w : World} {l : List Oper} (hm : P.follows .mixedOrders = true) (hB : Region.lexB .any l.toArray = true) (hS : S w.drew)
    (h : wpQuiet P l.toArray (fun w' => ∃ x : In S, w' = x.w) (fun a' => ∀ w', S w' → Q .normal a' w') l a) : (Code.region id l.toArray true).wp P Q a w := by
  have e : (fun a' => ∀ w', S w' → Q .normal a' w') = (fun a' => ∀ w', (∃ x : In S, w' = x.w) → Q .normal a' w') := by
    funext a'
    exact propext ⟨fun h w' ⟨x, hx⟩ => hx ▸ h _ x.h, fun h w' hS => h _ ⟨⟨w', hS⟩, rfl⟩⟩
  rw [e] at h
  exact wp_region_quiet (C := fun w' => ∃ x : In S, w' = x.w) hm hB ⟨⟨_, hS⟩, rfl⟩ (by simpa using h)
/-- At a call: its contract, and S behind it. -/
theorem call_in {S : World → Prop} {P : Program} {f : FuncId} {args : Array Value} (x : In S) {v : Value} (h : Calls P f args x.w fun e w' => e = .returned v ∧ Below x.w.heap.size x.w w') (hk : ∀ w w', S w → Below w.heap.size w w' → S w') :
    Calls P f args x.w fun e w' => e = .returned v ∧ ∃ y : In S, w' = y.w :=
  h.mono fun e w' ⟨he, hb⟩ => ⟨he, ⟨w', hk _ _ x.h hb⟩, rfl⟩
end Go.Proofs.YtnaimienfgpgmaaDoor.U

/- jid.Check and jid.Parse at this translation. -/
set_option linter.unusedVariables false
set_option linter.unusedSimpArgs false
namespace Go.Proofs.YtnaimienfgpgmaaDoor.Jid
open Go.RowKit GlyP Gly Strs JidP

/-- The box of an address in the heap; what was there ahead is as it was. -/
structure Box (w0 : World) (g : Nat) (a b c : ByteArray) (w : World) : Prop where
  cells : U.At g 30 #[.string a, .string b, .string c] w
  low : Below w0.heap.size w0 w
theorem Box.drew {w0 : World} {g : Nat} {a b c : ByteArray} {w : World} (h : Box w0 g a b c w) : Box w0 g a b c w.drew :=
  ⟨U.At.drewN h.cells 1, U.below_drewN h.low 1⟩
theorem Box.below {w0 : World} {g : Nat} {a b c : ByteArray} {w w' : World} (h : Box w0 g a b c w) (hb : Below w.heap.size w w') : Box w0 g a b c w' :=
  ⟨h.cells.below hb, h.low.trans (hb.mono h.low.size)⟩
theorem Box.all {w0 : World} {g : Nat} {a b c : ByteArray} {w : World} (h : Box w0 g a b c w) :
    w.cell? ⟨g, 0, none⟩ = some (.string a) ∧ w.cell? ⟨g, 1, none⟩ = some (.string b) ∧ w.cell? ⟨g, 2, none⟩ = some (.string c) ∧ Box w0 g a b c w :=
  ⟨h.cells.cell 0 _ rfl, h.cells.cell 1 _ rfl, h.cells.cell 2 _ rfl, h⟩

theorem pieces_le (c : UInt8) : ∀ l, ∀ p ∈ pieces c l, p.length ≤ l.length
  | [], p, h => by simp [pieces] at h; subst h; simp
  | x :: l, p, h => by
    simp only [pieces] at h
    by_cases hx : x = c
    · rw [if_pos hx] at h
      rcases List.mem_cons.1 h with rfl | h
      · simp
      · have := pieces_le c l p h
        rw [List.length_cons]; omega
    · rw [if_neg hx] at h
      split at h
      · rename_i q qs hq
        have ih := pieces_le c l
        rw [hq] at ih
        rcases List.mem_cons.1 h with rfl | h
        · have := ih q List.mem_cons_self
          rw [List.length_cons, List.length_cons]; omega
        · have := ih p (List.mem_cons_of_mem _ h)
          rw [List.length_cons]; omega
      · rename_i hq
        exact absurd hq (pieces_ne c l)

theorem countByte_le (c : UInt8) (b : ByteArray) : Lib.countByte b.data.toList c ≤ b.size := by
  unfold Lib.countByte
  have := List.count_le_length (a := c) (l := b.data.toList)
  rw [U.len_data] at this
  exact this

abbrev PartSays (s : ByteArray) (r : Bool) : Prop := Hid (∀ w, Calls Tryd.prog 43 #[.string s] w fun e w' => e = .returned (.bool r) ∧ Below w.heap.size w w')
abbrev NodeSays (s : ByteArray) (r : Bool) : Prop := Hid (∀ w, Calls Tryd.prog 44 #[.string s] w fun e w' => e = .returned (.bool r) ∧ Below w.heap.size w w')
abbrev NormSays (a b c A B : ByteArray) : Prop := Hid (∀ w, Calls Tryd.prog 42 #[.agg #[.string a, .string b, .string c]] w fun e w' => e = .returned (.agg #[.string A, .string B, .string c]) ∧ Below w.heap.size w w')

set_option maxHeartbeats 2000000 in
theorem Check_a (a b c : ByteArray) (ha : a.size ≤ 68719476736) (hb : b.size ≤ 68719476736) (hc : c.size ≤ 68719476736) (w : World)
    (A B : ByteArray) (HN : NormSays a b c A B) (h1 : ¬ A.toList = a.toList) :
    Calls Tryd.prog 28 #[.agg #[.string a, .string b, .string c]] w fun e w' => e = .returned (.int .i64 30) ∧ Below w.heap.size w w' := by
  go_enter Tryd.func28, Tryd.ntmps28
  have bx0 : Box w w.heap.size a b c (w.alloc (.cells #[.string a, .string b, .string c] 30)).drew := Box.drew ⟨U.At.new w _ _, (Below.refl _ w).alloc (Nat.le_refl _) _⟩
  have BX0 := Lib.hid bx0
  haveI : Nonempty (U.In (Box w w.heap.size a b c)) := ⟨⟨_, bx0⟩⟩
  have f0 := fun x : U.In (Box w w.heap.size a b c) => (Box.all x.h).1
  have f1 := fun x : U.In (Box w w.heap.size a b c) => (Box.all x.h).2.1
  have f2 := fun x : U.In (Box w w.heap.size a b c) => (Box.all x.h).2.2.1
  clear bx0
  go_wp2
  refine U.region_in (S := Box w w.heap.size a b c) (by kernel_rfl) (by kernel_rfl) BX0.out ?_
  repeat go_big_quiet_step (first
    | (go_at_call 42; exact U.call_in _ (HN.out _) (fun _ _ => Box.below)))
  refine wpQuiet_nil ?_
  intro w1 bx
  clear f0 f1 f2 this
  have c1 := bx.all.2.1
  have BX := Lib.hid bx
  clear bx
  go_wp2_with fail
  refine (Split_one 46 b (by omega) _).mono ?_
  rintro e w2 ⟨g, rfl, hb2, hs2⟩
  obtain ⟨ps, hps⟩ : ∃ ps, ps = pieces 46 b.data.toList := ⟨_, rfl⟩
  rw [← hps] at hs2 ⊢
  have b2 := (BX.out.below hb2).low
  have hpl := pieces_len 46 b.data.toList
  have hcl := countByte_le 46 b
  rw [← hps] at hpl
  clear hps
  go_wp2_with fail
  go_loop [3, 34] (fun t i => t = .bool false ∧ ∃ k : Nat, k ≤ ps.length ∧ i = .int .i64 k) (fun t i => ps.length - (intOf i).toNat)
  case atStart => exact ⟨rfl, 0, by omega, rfl⟩
  case round =>
    obtain ⟨rfl, k, hk, rfl⟩ := hrel
    by_cases hlt : k < ps.length
    · have hc0 := hs2 k hlt
      go_wp2
      go_round
      case rel => exact ⟨rfl, k + 1, by omega, by go_num⟩
      case measure => simp [intOf]; omega
    · go_wp2
      go_ret
      exact ⟨rfl, b2⟩

set_option maxHeartbeats 2000000 in
theorem Check_b (a b c : ByteArray) (ha : a.size ≤ 68719476736) (hb : b.size ≤ 68719476736) (hc : c.size ≤ 68719476736) (w : World)
    (A B : ByteArray) (HN : NormSays a b c A B) (h1 : A.toList = a.toList) (h2 : ¬ B.toList = b.toList) :
    Calls Tryd.prog 28 #[.agg #[.string a, .string b, .string c]] w fun e w' => e = .returned (.int .i64 30) ∧ Below w.heap.size w w' := by
  go_enter Tryd.func28, Tryd.ntmps28
  have bx0 : Box w w.heap.size a b c (w.alloc (.cells #[.string a, .string b, .string c] 30)).drew := Box.drew ⟨U.At.new w _ _, (Below.refl _ w).alloc (Nat.le_refl _) _⟩
  have BX0 := Lib.hid bx0
  haveI : Nonempty (U.In (Box w w.heap.size a b c)) := ⟨⟨_, bx0⟩⟩
  have f0 := fun x : U.In (Box w w.heap.size a b c) => (Box.all x.h).1
  have f1 := fun x : U.In (Box w w.heap.size a b c) => (Box.all x.h).2.1
  have f2 := fun x : U.In (Box w w.heap.size a b c) => (Box.all x.h).2.2.1
  clear bx0
  go_wp2
  refine U.region_in (S := Box w w.heap.size a b c) (by kernel_rfl) (by kernel_rfl) BX0.out ?_
  repeat go_big_quiet_step (first
    | (go_at_call 42; exact U.call_in _ (HN.out _) (fun _ _ => Box.below)))
  refine wpQuiet_nil ?_
  intro w1 bx
  clear f0 f1 f2 this
  have c1 := bx.all.2.1
  have BX := Lib.hid bx
  clear bx
  go_wp2_with fail
  refine (Split_one 46 b (by omega) _).mono ?_
  rintro e w2 ⟨g, rfl, hb2, hs2⟩
  obtain ⟨ps, hps⟩ : ∃ ps, ps = pieces 46 b.data.toList := ⟨_, rfl⟩
  rw [← hps] at hs2 ⊢
  have b2 := (BX.out.below hb2).low
  have hpl := pieces_len 46 b.data.toList
  have hcl := countByte_le 46 b
  rw [← hps] at hpl
  clear hps
  go_wp2_with fail
  go_loop [3, 34] (fun t i => t = .bool false ∧ ∃ k : Nat, k ≤ ps.length ∧ i = .int .i64 k) (fun t i => ps.length - (intOf i).toNat)
  case atStart => exact ⟨rfl, 0, by omega, rfl⟩
  case round =>
    obtain ⟨rfl, k, hk, rfl⟩ := hrel
    by_cases hlt : k < ps.length
    · have hc0 := hs2 k hlt
      go_wp2
      go_round
      case rel => exact ⟨rfl, k + 1, by omega, by go_num⟩
      case measure => simp [intOf]; omega
    · go_wp2
      go_ret
      exact ⟨rfl, b2⟩

set_option maxHeartbeats 2000000 in
theorem Check_c (a b c : ByteArray) (ha : a.size ≤ 68719476736) (hb : b.size ≤ 68719476736) (hc : c.size ≤ 68719476736) (w : World)
    (A B : ByteArray) (HN : NormSays a b c A B) (h1 : A.toList = a.toList) (h2 : B.toList = b.toList) (Ha : PartSays a false) :
    Calls Tryd.prog 28 #[.agg #[.string a, .string b, .string c]] w fun e w' => e = .returned (.int .i64 30) ∧ Below w.heap.size w w' := by
  go_enter Tryd.func28, Tryd.ntmps28
  have bx0 : Box w w.heap.size a b c (w.alloc (.cells #[.string a, .string b, .string c] 30)).drew := Box.drew ⟨U.At.new w _ _, (Below.refl _ w).alloc (Nat.le_refl _) _⟩
  have BX0 := Lib.hid bx0
  haveI : Nonempty (U.In (Box w w.heap.size a b c)) := ⟨⟨_, bx0⟩⟩
  have f0 := fun x : U.In (Box w w.heap.size a b c) => (Box.all x.h).1
  have f1 := fun x : U.In (Box w w.heap.size a b c) => (Box.all x.h).2.1
  have f2 := fun x : U.In (Box w w.heap.size a b c) => (Box.all x.h).2.2.1
  clear bx0
  go_wp2
  refine U.region_in (S := Box w w.heap.size a b c) (by kernel_rfl) (by kernel_rfl) BX0.out ?_
  repeat go_big_quiet_step (first
    | (go_at_call 42; exact U.call_in _ (HN.out _) (fun _ _ => Box.below))
    | (go_at_call_of 43 (Value.string a); exact U.call_in _ (Ha.out _) (fun _ _ => Box.below)))
  refine wpQuiet_nil ?_
  intro w1 bx
  clear f0 f1 f2 this
  have c1 := bx.all.2.1
  have BX := Lib.hid bx
  clear bx
  go_wp2_with fail
  refine (Split_one 46 b (by omega) _).mono ?_
  rintro e w2 ⟨g, rfl, hb2, hs2⟩
  obtain ⟨ps, hps⟩ : ∃ ps, ps = pieces 46 b.data.toList := ⟨_, rfl⟩
  rw [← hps] at hs2 ⊢
  have b2 := (BX.out.below hb2).low
  have hpl := pieces_len 46 b.data.toList
  have hcl := countByte_le 46 b
  rw [← hps] at hpl
  clear hps
  go_wp2_with fail
  go_loop [3, 34] (fun t i => t = .bool false ∧ ∃ k : Nat, k ≤ ps.length ∧ i = .int .i64 k) (fun t i => ps.length - (intOf i).toNat)
  case atStart => exact ⟨rfl, 0, by omega, rfl⟩
  case round =>
    obtain ⟨rfl, k, hk, rfl⟩ := hrel
    by_cases hlt : k < ps.length
    · have hc0 := hs2 k hlt
      go_wp2
      go_round
      case rel => exact ⟨rfl, k + 1, by omega, by go_num⟩
      case measure => simp [intOf]; omega
    · go_wp2
      go_ret
      exact ⟨rfl, b2⟩

set_option maxHeartbeats 2000000 in
theorem Check_d (a b c : ByteArray) (ha : a.size ≤ 68719476736) (hb : b.size ≤ 68719476736) (hc : c.size ≤ 68719476736) (w : World)
    (A B : ByteArray) (HN : NormSays a b c A B) (h1 : A.toList = a.toList) (h2 : B.toList = b.toList) (Ha : PartSays a true) (Hb : PartSays b false) :
    Calls Tryd.prog 28 #[.agg #[.string a, .string b, .string c]] w fun e w' => e = .returned (.int .i64 30) ∧ Below w.heap.size w w' := by
  go_enter Tryd.func28, Tryd.ntmps28
  have bx0 : Box w w.heap.size a b c (w.alloc (.cells #[.string a, .string b, .string c] 30)).drew := Box.drew ⟨U.At.new w _ _, (Below.refl _ w).alloc (Nat.le_refl _) _⟩
  have BX0 := Lib.hid bx0
  haveI : Nonempty (U.In (Box w w.heap.size a b c)) := ⟨⟨_, bx0⟩⟩
  have f0 := fun x : U.In (Box w w.heap.size a b c) => (Box.all x.h).1
  have f1 := fun x : U.In (Box w w.heap.size a b c) => (Box.all x.h).2.1
  have f2 := fun x : U.In (Box w w.heap.size a b c) => (Box.all x.h).2.2.1
  clear bx0
  go_wp2
  refine U.region_in (S := Box w w.heap.size a b c) (by kernel_rfl) (by kernel_rfl) BX0.out ?_
  repeat go_big_quiet_step (first
    | (go_at_call 42; exact U.call_in _ (HN.out _) (fun _ _ => Box.below))
    | (go_at_call_of 43 (Value.string a); exact U.call_in _ (Ha.out _) (fun _ _ => Box.below))
    | (go_at_call_of 43 (Value.string b); exact U.call_in _ (Hb.out _) (fun _ _ => Box.below)))
  refine wpQuiet_nil ?_
  intro w1 bx
  clear f0 f1 f2 this
  have c1 := bx.all.2.1
  have BX := Lib.hid bx
  clear bx
  go_wp2_with fail
  refine (Split_one 46 b (by omega) _).mono ?_
  rintro e w2 ⟨g, rfl, hb2, hs2⟩
  obtain ⟨ps, hps⟩ : ∃ ps, ps = pieces 46 b.data.toList := ⟨_, rfl⟩
  rw [← hps] at hs2 ⊢
  have b2 := (BX.out.below hb2).low
  have hpl := pieces_len 46 b.data.toList
  have hcl := countByte_le 46 b
  rw [← hps] at hpl
  clear hps
  go_wp2_with fail
  go_loop [3, 34] (fun t i => t = .bool false ∧ ∃ k : Nat, k ≤ ps.length ∧ i = .int .i64 k) (fun t i => ps.length - (intOf i).toNat)
  case atStart => exact ⟨rfl, 0, by omega, rfl⟩
  case round =>
    obtain ⟨rfl, k, hk, rfl⟩ := hrel
    by_cases hlt : k < ps.length
    · have hc0 := hs2 k hlt
      go_wp2
      go_round
      case rel => exact ⟨rfl, k + 1, by omega, by go_num⟩
      case measure => simp [intOf]; omega
    · go_wp2
      go_ret
      exact ⟨rfl, b2⟩

set_option maxHeartbeats 2000000 in
theorem Check_e (a b c : ByteArray) (ha : a.size ≤ 68719476736) (hb : b.size ≤ 68719476736) (hc : c.size ≤ 68719476736) (w : World)
    (A B : ByteArray) (HN : NormSays a b c A B) (h1 : A.toList = a.toList) (h2 : B.toList = b.toList) (Ha : PartSays a true) (Hb : PartSays b true) (Hc : PartSays c false) :
    Calls Tryd.prog 28 #[.agg #[.string a, .string b, .string c]] w fun e w' => e = .returned (.int .i64 30) ∧ Below w.heap.size w w' := by
  go_enter Tryd.func28, Tryd.ntmps28
  have bx0 : Box w w.heap.size a b c (w.alloc (.cells #[.string a, .string b, .string c] 30)).drew := Box.drew ⟨U.At.new w _ _, (Below.refl _ w).alloc (Nat.le_refl _) _⟩
  have BX0 := Lib.hid bx0
  haveI : Nonempty (U.In (Box w w.heap.size a b c)) := ⟨⟨_, bx0⟩⟩
  have f0 := fun x : U.In (Box w w.heap.size a b c) => (Box.all x.h).1
  have f1 := fun x : U.In (Box w w.heap.size a b c) => (Box.all x.h).2.1
  have f2 := fun x : U.In (Box w w.heap.size a b c) => (Box.all x.h).2.2.1
  clear bx0
  go_wp2
  refine U.region_in (S := Box w w.heap.size a b c) (by kernel_rfl) (by kernel_rfl) BX0.out ?_
  repeat go_big_quiet_step (first
    | (go_at_call 42; exact U.call_in _ (HN.out _) (fun _ _ => Box.below))
    | (go_at_call_of 43 (Value.string a); exact U.call_in _ (Ha.out _) (fun _ _ => Box.below))
    | (go_at_call_of 43 (Value.string b); exact U.call_in _ (Hb.out _) (fun _ _ => Box.below))
    | (go_at_call_of 43 (Value.string c); exact U.call_in _ (Hc.out _) (fun _ _ => Box.below)))
  refine wpQuiet_nil ?_
  intro w1 bx
  clear f0 f1 f2 this
  have c1 := bx.all.2.1
  have BX := Lib.hid bx
  clear bx
  go_wp2_with fail
  refine (Split_one 46 b (by omega) _).mono ?_
  rintro e w2 ⟨g, rfl, hb2, hs2⟩
  obtain ⟨ps, hps⟩ : ∃ ps, ps = pieces 46 b.data.toList := ⟨_, rfl⟩
  rw [← hps] at hs2 ⊢
  have b2 := (BX.out.below hb2).low
  have hpl := pieces_len 46 b.data.toList
  have hcl := countByte_le 46 b
  rw [← hps] at hpl
  clear hps
  go_wp2_with fail
  go_loop [3, 34] (fun t i => t = .bool false ∧ ∃ k : Nat, k ≤ ps.length ∧ i = .int .i64 k) (fun t i => ps.length - (intOf i).toNat)
  case atStart => exact ⟨rfl, 0, by omega, rfl⟩
  case round =>
    obtain ⟨rfl, k, hk, rfl⟩ := hrel
    by_cases hlt : k < ps.length
    · have hc0 := hs2 k hlt
      go_wp2
      go_round
      case rel => exact ⟨rfl, k + 1, by omega, by go_num⟩
      case measure => simp [intOf]; omega
    · go_wp2
      go_ret
      exact ⟨rfl, b2⟩

set_option maxHeartbeats 2000000 in
theorem Check_f (a b c : ByteArray) (ha : a.size ≤ 68719476736) (hb : b.size ≤ 68719476736) (hc : c.size ≤ 68719476736) (w : World)
    (A B : ByteArray) (HN : NormSays a b c A B) (h1 : A.toList = a.toList) (h2 : B.toList = b.toList) (Ha : PartSays a true) (Hb : PartSays b true) (Hc : PartSays c true) (Hn : NodeSays a false) :
    Calls Tryd.prog 28 #[.agg #[.string a, .string b, .string c]] w fun e w' => e = .returned (.int .i64 30) ∧ Below w.heap.size w w' := by
  go_enter Tryd.func28, Tryd.ntmps28
  have bx0 : Box w w.heap.size a b c (w.alloc (.cells #[.string a, .string b, .string c] 30)).drew := Box.drew ⟨U.At.new w _ _, (Below.refl _ w).alloc (Nat.le_refl _) _⟩
  have BX0 := Lib.hid bx0
  haveI : Nonempty (U.In (Box w w.heap.size a b c)) := ⟨⟨_, bx0⟩⟩
  have f0 := fun x : U.In (Box w w.heap.size a b c) => (Box.all x.h).1
  have f1 := fun x : U.In (Box w w.heap.size a b c) => (Box.all x.h).2.1
  have f2 := fun x : U.In (Box w w.heap.size a b c) => (Box.all x.h).2.2.1
  clear bx0
  go_wp2
  refine U.region_in (S := Box w w.heap.size a b c) (by kernel_rfl) (by kernel_rfl) BX0.out ?_
  repeat go_big_quiet_step (first
    | (go_at_call 42; exact U.call_in _ (HN.out _) (fun _ _ => Box.below))
    | (go_at_call_of 43 (Value.string a); exact U.call_in _ (Ha.out _) (fun _ _ => Box.below))
    | (go_at_call_of 43 (Value.string b); exact U.call_in _ (Hb.out _) (fun _ _ => Box.below))
    | (go_at_call_of 43 (Value.string c); exact U.call_in _ (Hc.out _) (fun _ _ => Box.below))
    | (go_at_call 44; exact U.call_in _ (Hn.out _) (fun _ _ => Box.below)))
  refine wpQuiet_nil ?_
  intro w1 bx
  clear f0 f1 f2 this
  have c1 := bx.all.2.1
  have BX := Lib.hid bx
  clear bx
  go_wp2_with fail
  refine (Split_one 46 b (by omega) _).mono ?_
  rintro e w2 ⟨g, rfl, hb2, hs2⟩
  obtain ⟨ps, hps⟩ : ∃ ps, ps = pieces 46 b.data.toList := ⟨_, rfl⟩
  rw [← hps] at hs2 ⊢
  have b2 := (BX.out.below hb2).low
  have hpl := pieces_len 46 b.data.toList
  have hcl := countByte_le 46 b
  rw [← hps] at hpl
  clear hps
  go_wp2_with fail
  go_loop [3, 34] (fun t i => t = .bool false ∧ ∃ k : Nat, k ≤ ps.length ∧ i = .int .i64 k) (fun t i => ps.length - (intOf i).toNat)
  case atStart => exact ⟨rfl, 0, by omega, rfl⟩
  case round =>
    obtain ⟨rfl, k, hk, rfl⟩ := hrel
    by_cases hlt : k < ps.length
    · have hc0 := hs2 k hlt
      go_wp2
      go_round
      case rel => exact ⟨rfl, k + 1, by omega, by go_num⟩
      case measure => simp [intOf]; omega
    · go_wp2
      go_ret
      exact ⟨rfl, b2⟩

theorem all_step (ps : List (List UInt8)) (k : Nat) (h : k < ps.length) : (ps.drop k).all isLabel = (isLabel ps[k] && (ps.drop (k + 1)).all isLabel) := by
  rw [List.drop_eq_getElem_cons h]; rfl
theorem all_ends (ps : List (List UInt8)) (k : Nat) (h : ps.length ≤ k) : (ps.drop k).all isLabel = true := by
  rw [List.drop_eq_nil_of_le h]; rfl

set_option maxHeartbeats 2000000 in
theorem Check_g (a b c : ByteArray) (ha : a.size ≤ 68719476736) (hb : b.size ≤ 68719476736) (hc : c.size ≤ 68719476736) (w : World)
    (A B : ByteArray) (HN : NormSays a b c A B) (h1 : A.toList = a.toList) (h2 : B.toList = b.toList) (Ha : PartSays a true) (Hb : PartSays b true) (Hc : PartSays c true) (Hn : NodeSays a true) (R : Int) (HR : Hid (R = if (pieces 46 b.data.toList).all isLabel = true then 0 else 30)) :
    Calls Tryd.prog 28 #[.agg #[.string a, .string b, .string c]] w fun e w' => e = .returned (.int .i64 R) ∧ Below w.heap.size w w' := by
  go_enter Tryd.func28, Tryd.ntmps28
  have bx0 : Box w w.heap.size a b c (w.alloc (.cells #[.string a, .string b, .string c] 30)).drew := Box.drew ⟨U.At.new w _ _, (Below.refl _ w).alloc (Nat.le_refl _) _⟩
  have BX0 := Lib.hid bx0
  haveI : Nonempty (U.In (Box w w.heap.size a b c)) := ⟨⟨_, bx0⟩⟩
  have f0 := fun x : U.In (Box w w.heap.size a b c) => (Box.all x.h).1
  have f1 := fun x : U.In (Box w w.heap.size a b c) => (Box.all x.h).2.1
  have f2 := fun x : U.In (Box w w.heap.size a b c) => (Box.all x.h).2.2.1
  clear bx0
  go_wp2
  refine U.region_in (S := Box w w.heap.size a b c) (by kernel_rfl) (by kernel_rfl) BX0.out ?_
  repeat go_big_quiet_step (first
    | (go_at_call 42; exact U.call_in _ (HN.out _) (fun _ _ => Box.below))
    | (go_at_call_of 43 (Value.string a); exact U.call_in _ (Ha.out _) (fun _ _ => Box.below))
    | (go_at_call_of 43 (Value.string b); exact U.call_in _ (Hb.out _) (fun _ _ => Box.below))
    | (go_at_call_of 43 (Value.string c); exact U.call_in _ (Hc.out _) (fun _ _ => Box.below))
    | (go_at_call 44; exact U.call_in _ (Hn.out _) (fun _ _ => Box.below)))
  refine wpQuiet_nil ?_
  intro w1 bx
  clear f0 f1 f2 this
  have c1 := bx.all.2.1
  have BX := Lib.hid bx
  clear bx
  go_wp2_with fail
  refine (Split_one 46 b (by omega) _).mono ?_
  rintro e w2 ⟨g, rfl, hb2, hs2⟩
  obtain ⟨ps, hps⟩ : ∃ ps, ps = pieces 46 b.data.toList := ⟨_, rfl⟩
  rw [← hps] at hs2 HR ⊢
  have b2 := (BX.out.below hb2).low
  have hpl := pieces_len 46 b.data.toList
  have hcl := countByte_le 46 b
  rw [← hps] at hpl
  have HL := Lib.hid (pieces_le 46 b.data.toList)
  rw [← hps] at HL
  clear hps
  go_wp2_with fail
  go_loop [3, 34] (fun t i => ∃ k : Nat, ∃ ok : Bool, k ≤ ps.length ∧ i = .int .i64 k ∧ t = .bool ok ∧ Hid (ps.all isLabel = (ok && (ps.drop k).all isLabel))) (fun t i => ps.length - (intOf i).toNat)
  case atStart => exact ⟨0, true, by omega, rfl, rfl, Lib.hid rfl⟩
  case round =>
    obtain ⟨k, ok, hk, rfl, rfl, HA⟩ := hrel
    by_cases hlt : k < ps.length
    · have hc0 := hs2 k hlt
      have HD := Lib.hid (all_step ps k hlt)
      have hsz : (⟨(ps[k]).toArray⟩ : ByteArray).size ≤ 68719476736 := by
        have := HL.out _ (List.getElem_mem hlt)
        rw [← U.len_data]; exact Nat.le_trans this (by rw [U.len_data]; exact hb)
      have HZ := Lib.hid hsz
      clear hsz
      cases ok with
      | false =>
        go_wp2
        go_round
        case rel => exact ⟨k + 1, false, by omega, by go_num, rfl, Lib.hid (by rw [HA.out]; rfl)⟩
        case measure => simp [intOf]; omega
      | true =>
        go_wp2_with fail
        refine (isLabel_any _ HZ.out _).mono ?_
        rintro e w3 ⟨rfl, rfl⟩
        go_wp2
        go_round
        case rel => exact ⟨k + 1, isLabel ps[k], by omega, by go_num, rfl, Lib.hid (by rw [HA.out, HD.out, Bool.true_and])⟩
        case measure => simp [intOf]; omega
    · have hkk : ps.length ≤ k := by omega
      have HE := Lib.hid (all_ends ps k hkk)
      clear hkk
      cases ok with
      | false =>
        have HV := Lib.hid (show ps.all isLabel = false from by rw [HA.out]; rfl)
        go_wp2
        go_ret
        exact ⟨by rw [HR.out, HV.out]; rfl, b2⟩
      | true =>
        have HV := Lib.hid (show ps.all isLabel = true from by rw [HA.out, HE.out]; rfl)
        go_wp2
        go_ret
        exact ⟨by rw [HR.out, HV.out]; rfl, b2⟩

/-- A part's bytes. -/
def jOf (a b c : ByteArray) : J := ⟨a.data.toList, b.data.toList, c.data.toList⟩
theorem toList_mk (l : List UInt8) : (⟨l.toArray⟩ : ByteArray).toList = l := by rw [Lib.toList_data]
theorem partSays (s : ByteArray) (h : s.size ≤ 68719476736) (r : Bool) (hr : isPart s.data.toList = r) : PartSays s r := Lib.hid (fun w => by subst hr; exact isPart_any s h w)
theorem nodeSays (s : ByteArray) (h : s.size ≤ 68719476736) (r : Bool) (hr : isNode s.data.toList = r) : NodeSays s r := Lib.hid (fun w => by
  subst hr; exact (isNode_any s h w).mono (fun e w' ⟨h1, h2⟩ => ⟨h1, h2 ▸ Below.refl _ _⟩))

theorem Check_any (a b c : ByteArray) (ha : a.size ≤ 68719476736) (hb : b.size ≤ 68719476736) (hc : c.size ≤ 68719476736) (w : World) :
    Calls Tryd.prog 28 #[.agg #[.string a, .string b, .string c]] w fun e w' => e = .returned (.int .i64 (if ok (jOf a b c) = true then 0 else 30)) ∧ Below w.heap.size w w' := by
  have HN : NormSays a b c ⟨(a.data.toList.map low).toArray⟩ ⟨(trimPoint (b.data.toList.map low)).toArray⟩ := Lib.hid (fun w => Norm_any a b c ha hb w)
  have e1 : (⟨(a.data.toList.map low).toArray⟩ : ByteArray).toList = a.data.toList.map low := toList_mk _
  have e2 : (⟨(trimPoint (b.data.toList.map low)).toArray⟩ : ByteArray).toList = trimPoint (b.data.toList.map low) := toList_mk _
  have hn : (norm (jOf a b c) == jOf a b c) = (decide (a.data.toList.map low = a.data.toList) && decide (trimPoint (b.data.toList.map low) = b.data.toList)) := by
    rw [Bool.eq_iff_iff]
    simp only [beq_iff_eq, Bool.and_eq_true, decide_eq_true_eq, norm, jOf, J.mk.injEq, and_true]
  by_cases h1 : a.data.toList.map low = a.data.toList
  · by_cases h2 : trimPoint (b.data.toList.map low) = b.data.toList
    · have hn' : (norm (jOf a b c) == jOf a b c) = true := by rw [hn, decide_eq_true h1, decide_eq_true h2]; rfl
      rw [← Lib.toList_data a] at h1
      rw [← Lib.toList_data b] at h2
      have g1 : (⟨(a.data.toList.map low).toArray⟩ : ByteArray).toList = a.toList := by rw [e1, ← Lib.toList_data a, h1]
      have g2 : (⟨(trimPoint (b.data.toList.map low)).toArray⟩ : ByteArray).toList = b.toList := by rw [e2, ← Lib.toList_data b, h2]
      cases pa : isPart a.data.toList with
      | false =>
        rw [show ok (jOf a b c) = false from by unfold ok; rw [hn']; show (true && (isPart a.data.toList && _)) = false; rw [pa]; rfl, if_neg (by decide)]
        exact Check_c a b c ha hb hc w _ _ HN g1 g2 (partSays a ha _ pa)
      | true =>
        cases pb : isPart b.data.toList with
        | false =>
          rw [show ok (jOf a b c) = false from by unfold ok; rw [hn']; show (true && (isPart a.data.toList && (isPart b.data.toList && _))) = false; rw [pa, pb]; rfl, if_neg (by decide)]
          exact Check_d a b c ha hb hc w _ _ HN g1 g2 (partSays a ha _ pa) (partSays b hb _ pb)
        | true =>
          cases pc : isPart c.data.toList with
          | false =>
            rw [show ok (jOf a b c) = false from by unfold ok; rw [hn']; show (true && (isPart a.data.toList && (isPart b.data.toList && (isPart c.data.toList && _)))) = false; rw [pa, pb, pc]; rfl, if_neg (by decide)]
            exact Check_e a b c ha hb hc w _ _ HN g1 g2 (partSays a ha _ pa) (partSays b hb _ pb) (partSays c hc _ pc)
          | true =>
            cases pn : isNode a.data.toList with
            | false =>
              rw [show ok (jOf a b c) = false from by unfold ok; rw [hn']; show (true && (isPart a.data.toList && (isPart b.data.toList && (isPart c.data.toList && (isNode a.data.toList && _))))) = false; rw [pa, pb, pc, pn]; rfl, if_neg (by decide)]
              exact Check_f a b c ha hb hc w _ _ HN g1 g2 (partSays a ha _ pa) (partSays b hb _ pb) (partSays c hc _ pc) (nodeSays a ha _ pn)
            | true =>
              rw [show ok (jOf a b c) = (pieces 46 b.data.toList).all isLabel from by unfold ok; rw [hn']; show (true && (isPart a.data.toList && (isPart b.data.toList && (isPart c.data.toList && (isNode a.data.toList && _))))) = _; rw [pa, pb, pc, pn]; rfl]
              exact Check_g a b c ha hb hc w _ _ HN g1 g2 (partSays a ha _ pa) (partSays b hb _ pb) (partSays c hc _ pc) (nodeSays a ha _ pn) _ (Lib.hid rfl)
    · rw [show ok (jOf a b c) = false from by unfold ok; rw [hn, decide_eq_false h2, Bool.and_false]; rfl, if_neg (by decide)]
      have g1 : (⟨(a.data.toList.map low).toArray⟩ : ByteArray).toList = a.toList := by rw [e1, Lib.toList_data a, h1]
      exact Check_b a b c ha hb hc w _ _ HN g1 (by rw [e2, Lib.toList_data b]; exact h2)
  · rw [show ok (jOf a b c) = false from by unfold ok; rw [hn, decide_eq_false h1, Bool.false_and]; rfl, if_neg (by decide)]
    exact Check_a a b c ha hb hc w _ _ HN (by rw [e1, Lib.toList_data a]; exact h1)
end Go.Proofs.YtnaimienfgpgmaaDoor.Jid

/- jid.Parse at this translation. -/
set_option linter.unusedVariables false
set_option linter.unusedSimpArgs false
namespace Go.Proofs.YtnaimienfgpgmaaDoor.Jid
open Go.RowKit GlyP Gly Strs JidP

abbrev CheckSays (a b c : ByteArray) (r : Int) : Prop := Hid (∀ w, Calls Tryd.prog 28 #[.agg #[.string a, .string b, .string c]] w fun e w' => e = .returned (.int .i64 r) ∧ Below w.heap.size w w')
def bad : Value := .tuple #[.agg #[.string ⟨#[]⟩, .string ⟨#[]⟩, .string ⟨#[]⟩], .int .i64 30]

end Go.Proofs.YtnaimienfgpgmaaDoor.Jid

/- jid.Parse at this translation: joined. -/
set_option linter.unusedVariables false
set_option linter.unusedSimpArgs false
namespace Go.Proofs.YtnaimienfgpgmaaDoor.Jid
open Go.RowKit GlyP Gly Strs JidP

theorem aft_le (c : UInt8) (l : List UInt8) : (aftB c l).length ≤ l.length := by
  rcases parts c l with ⟨_, _, h⟩ | ⟨_, _, _, h⟩
  · have := congrArg List.length h
    rw [List.length_append, List.length_cons] at this; omega
  · rw [h]; simp
theorem size_mk (l : List UInt8) : (⟨l.toArray⟩ : ByteArray).size = l.length := by rw [← U.len_data]
theorem trim_le (l : List UInt8) : (trimPoint l).length ≤ l.length := by
  unfold trimPoint; split
  · rw [List.length_dropLast]; omega
  · exact Nat.le_refl _
def parseV (l : List UInt8) : Value := match parse l with | some j => .tuple #[V j, .int .i64 0] | none => bad
theorem mif (c : Bool) (j : J) (f : J → Value) (b : Value) : (match (if c = true then none else some j : Option J) with | some j => f j | none => b) = if c = true then b else f j := by cases c <;> rfl
theorem isEmpty_size (s : ByteArray) : s.data.toList.isEmpty = decide (s.size = 0) := by
  rw [← U.len_data]; cases s.data.toList <;> simp

end Go.Proofs.YtnaimienfgpgmaaDoor.Jid

/- wharflaw03's helpers: num, small, live. -/
set_option linter.unusedVariables false
set_option linter.unusedSimpArgs false
namespace Go.Proofs.YtnaimienfgpgmaaDoor.Jid
open Go.RowKit GlyP Gly Strs JidP

theorem fld2 (a b c : ByteArray) (w : World) : (Instr.field 30 (.agg #[.string a, .string b, .string c]) 2).run Tryd.prog w = .ok (.string c) w := by kernel_rfl
def Low (s : ByteArray) : Prop := s.size ≤ 140737488351232
def exN : ByteArray := ⟨#[106, 117, 108, 105, 101, 116]⟩
def exD : ByteArray := ⟨#[101, 120, 97, 109, 112, 108, 101, 46, 99, 111, 109]⟩
def exR : ByteArray := ⟨#[66, 97, 108, 99, 111, 110, 121]⟩
def exP : ByteArray := ⟨#[106, 117, 108, 105, 101, 116, 64, 101, 120, 97, 109, 112, 108, 101, 46, 99, 111, 109, 47, 66, 97, 108, 99, 111, 110, 121]⟩
theorem ex_check (w : World) : Calls Tryd.prog 28 #[.agg #[.string ⟨#[]⟩, .string ⟨#[]⟩, .string ⟨#[]⟩]] w fun e w' => e = .returned (.int .i64 30) ∧ Below w.heap.size w w' := by
  have h := Check_any ⟨#[]⟩ ⟨#[]⟩ ⟨#[]⟩ (by decide) (by decide) (by decide) w
  rw [show ok (jOf ⟨#[]⟩ ⟨#[]⟩ ⟨#[]⟩) = false from by decide +kernel] at h
  exact h

/-- The worlds of a walk: these blocks hold these addresses; what was there ahead is as it was. -/
structure Keep (w0 : World) (bs : List (Nat × ByteArray × ByteArray × ByteArray)) (w : World) : Prop where
  cells : ∀ p ∈ bs, U.At p.1 30 #[.string p.2.1, .string p.2.2.1, .string p.2.2.2] w
  low : Below w0.heap.size w0 w
theorem Keep.start (w : World) : Keep w [] w := ⟨fun _ h => absurd h List.not_mem_nil, Below.refl _ _⟩
theorem Keep.below {w0 : World} {bs : List (Nat × ByteArray × ByteArray × ByteArray)} {w w' : World} (h : Keep w0 bs w) (hb : Below w.heap.size w w') : Keep w0 bs w' :=
  ⟨fun p hp => (h.cells p hp).below hb, h.low.trans (hb.mono h.low.size)⟩
theorem Keep.alloc {w0 : World} {bs : List (Nat × ByteArray × ByteArray × ByteArray)} {w : World} (h : Keep w0 bs w) (a b c : ByteArray) : Keep w0 ((w.heap.size, a, b, c) :: bs) (w.alloc (.cells #[.string a, .string b, .string c] 30)) := by
  refine ⟨fun p hp => ?_, h.low.alloc h.low.size _⟩
  rcases List.mem_cons.1 hp with rfl | hp
  · exact U.At.new w _ _
  · exact (h.cells p hp).alloc _
theorem Keep.drew {w0 : World} {bs : List (Nat × ByteArray × ByteArray × ByteArray)} {w : World} (h : Keep w0 bs w) : Keep w0 bs w.drew :=
  ⟨fun p hp => U.At.drewN (h.cells p hp) 1, U.below_drewN h.low 1⟩
theorem Keep.lt {w0 : World} {bs : List (Nat × ByteArray × ByteArray × ByteArray)} {w : World} (h : Keep w0 bs w) (g : Nat) (a b c : ByteArray) (hm : (g, a, b, c) ∈ bs) : g < w.heap.size := (h.cells _ hm).lt
theorem Keep.box {w0 : World} {bs : List (Nat × ByteArray × ByteArray × ByteArray)} {w : World} (h : Keep w0 bs w) (g : Nat) (a b c : ByteArray) (hm : (g, a, b, c) ∈ bs) :
    w.cell? ⟨g, 0, none⟩ = some (.string a) ∧ w.cell? ⟨g, 1, none⟩ = some (.string b) ∧ w.cell? ⟨g, 2, none⟩ = some (.string c) :=
  ⟨(h.cells _ hm).cell 0 _ rfl, (h.cells _ hm).cell 1 _ rfl, (h.cells _ hm).cell 2 _ rfl⟩

end Go.Proofs.YtnaimienfgpgmaaDoor.Jid

/- Addresses: what is put is parsed. Plain lists: no program in sight. -/
set_option linter.unusedVariables false
set_option linter.unusedSimpArgs false
namespace Go.Proofs.YtnaimienfgpgmaaDoor.JidP
open GlyP Gly Strs

theorem ok_parts (j : J) : ok j = true ↔ norm j = j ∧ isPart j.n = true ∧ isPart j.d = true ∧ isPart j.r = true ∧ isNode j.n = true ∧ (pieces 46 j.d).all isLabel = true := by
  unfold ok
  simp only [Bool.and_eq_true, beq_iff_eq]
theorem in_pieces (s : UInt8) : ∀ (l : List UInt8) (c : UInt8), c ∈ l → c = s ∨ ∃ p ∈ pieces s l, c ∈ p
  | [], c, h => by cases h
  | x :: l, c, h => by
    simp only [pieces]
    by_cases hx : x = s
    · rw [if_pos hx]
      rcases List.mem_cons.1 h with rfl | h
      · exact .inl hx
      · rcases in_pieces s l c h with h | ⟨p, hp, hc⟩
        · exact .inl h
        · exact .inr ⟨p, List.mem_cons_of_mem _ hp, hc⟩
    · rw [if_neg hx]
      split
      · rename_i q qs hq
        rcases List.mem_cons.1 h with rfl | h
        · exact .inr ⟨_, List.mem_cons_self, List.mem_cons_self⟩
        · rcases in_pieces s l c h with h | ⟨p, hp, hc⟩
          · exact .inl h
          · rw [hq] at hp
            rcases List.mem_cons.1 hp with rfl | hp
            · exact .inr ⟨_, List.mem_cons_self, List.mem_cons_of_mem _ hc⟩
            · exact .inr ⟨p, List.mem_cons_of_mem _ hp, hc⟩
      · rename_i hq
        exact absurd hq (pieces_ne s l)
theorem dom_bytes {d : List UInt8} (h : (pieces 46 d).all isLabel = true) : ∀ c ∈ d, c = 46 ∨ labelB c = true := by
  intro c hc
  rcases in_pieces 46 d c hc with h1 | ⟨p, hp, hcp⟩
  · exact .inl h1
  · have h2 := List.all_eq_true.1 h p hp
    unfold isLabel at h2
    rw [Bool.and_eq_true] at h2
    exact .inr (List.all_eq_true.1 h2.1 c hcp)
theorem no_byte {l : List UInt8} {b : UInt8} (h : b ∉ l) : l.contains b = false := by
  rw [Bool.eq_false_iff]; intro hc; exact h (by simpa using hc)
theorem dom_no {d : List UInt8} (h : (pieces 46 d).all isLabel = true) : d.contains 47 = false ∧ d.contains 64 = false := by
  constructor
  · refine no_byte fun hc => ?_
    rcases dom_bytes h 47 hc with h1 | h1 <;> revert h1 <;> decide
  · refine no_byte fun hc => ?_
    rcases dom_bytes h 64 hc with h1 | h1 <;> revert h1 <;> decide
theorem node_no {n : List UInt8} (h : isNode n = true) : n.contains 47 = false ∧ n.contains 64 = false := by
  unfold isNode at h
  constructor
  · refine no_byte fun hc => ?_
    have := List.all_eq_true.1 h 47 hc
    revert this; decide
  · refine no_byte fun hc => ?_
    have := List.all_eq_true.1 h 64 hc
    revert this; decide

theorem cut_no (c : UInt8) (l : List UInt8) (h : l.contains c = false) : foreB c l = l ∧ aftB c l = [] := by
  rcases parts c l with ⟨h1, _⟩ | ⟨_, _, h2, h3⟩
  · rw [h] at h1; cases h1
  · exact ⟨h2, h3⟩
theorem cut_yes (c : UInt8) : ∀ (A B : List UInt8), A.contains c = false → foreB c (A ++ c :: B) = A ∧ aftB c (A ++ c :: B) = B ∧ (A ++ c :: B).contains c = true
  | [], B, _ => by simp [foreB, aftB]
  | x :: A, B, h => by
    simp only [List.contains_cons, Bool.or_eq_false_iff] at h
    have hne : (x != c) = true := by rw [bne_iff_ne]; intro e; rw [e] at h; simp at h
    obtain ⟨h1, h2, h3⟩ := cut_yes c A B h.2
    refine ⟨?_, ?_, ?_⟩
    · show foreB c (x :: (A ++ c :: B)) = x :: A
      rw [show foreB c (x :: (A ++ c :: B)) = x :: foreB c (A ++ c :: B) by simp [foreB, hne], h1]
    · show aftB c (x :: (A ++ c :: B)) = B
      rw [show aftB c (x :: (A ++ c :: B)) = aftB c (A ++ c :: B) by simp [aftB, hne], h2]
    · show (x :: (A ++ c :: B)).contains c = true
      rw [List.contains_cons, h3, Bool.or_true]
theorem contains_app (c : UInt8) (A B : List UInt8) : (A ++ B).contains c = (A.contains c || B.contains c) := by
  induction A with
  | nil => simp
  | cons x A ih => rw [List.cons_append, List.contains_cons, ih, List.contains_cons, Bool.or_assoc]

/-- WHAT IS PUT IS PARSED. -/
theorem parse_put (j : J) (h : ok j = true) : parse (put j) = some j := by
  obtain ⟨hn, _, _, _, h5, h6⟩ := (ok_parts j).1 h
  obtain ⟨n47, n64⟩ := node_no h5
  obtain ⟨d47, d64⟩ := dom_no h6
  obtain ⟨n, d, r⟩ := j
  dsimp only at *
  -- ahead of the resource
  obtain ⟨b, hb⟩ : ∃ b, b = if n = [] then d else n ++ [64] ++ d := ⟨_, rfl⟩
  have b47 : b.contains 47 = false := by
    rw [hb]; split
    · exact d47
    · rw [contains_app, contains_app, n47, d47]; rfl
  have hfb : (b.contains 64 = false ∧ n = [] ∧ b = d) ∨ (b.contains 64 = true ∧ n ≠ [] ∧ foreB 64 b = n ∧ aftB 64 b = d) := by
    by_cases h0 : n = []
    · left; rw [if_pos h0] at hb; rw [hb]; exact ⟨d64, h0, rfl⟩
    · right
      rw [if_neg h0, List.append_assoc] at hb
      obtain ⟨h1, h2, h3⟩ := cut_yes 64 n d n64
      rw [hb]; exact ⟨h3, h0, h1, h2⟩
  have hp : put ⟨n, d, r⟩ = b ++ (if r = [] then [] else 47 :: r) := by rw [hb]; rfl
  rw [hp]
  have key : ∀ l, foreB 47 l = b → aftB 47 l = r → (l.contains 47 && r.isEmpty) = false → parse l = some ⟨n, d, r⟩ := by
    intro l h1 h2 h3
    unfold parse
    rw [h1, h2, h3]
    dsimp only
    rcases hfb with ⟨e1, e2, e3⟩ | ⟨e1, e2, e3, e4⟩
    · rw [e1]
      simp only [Bool.false_eq_true, if_false]
      rw [← e2, e3, hn, h]
      rfl
    · rw [e1]
      simp only [if_true]
      rw [e3, e4, hn, h]
      rw [show n.isEmpty = false by cases n with | nil => exact absurd rfl e2 | cons x l => rfl]
      rfl
  by_cases hr : r = []
  · rw [if_pos hr, List.append_nil]
    obtain ⟨h1, h2⟩ := cut_no 47 b b47
    exact key b h1 (h2.trans hr.symm) (by rw [b47]; rfl)
  · rw [if_neg hr]
    obtain ⟨h1, h2, h3⟩ := cut_yes 47 b r b47
    exact key _ h1 h2 (by rw [show r.isEmpty = false by cases r with | nil => exact absurd rfl hr | cons x l => rfl, Bool.and_false])

theorem parse_some {l : List UInt8} {j : J} (h : parse l = some j) : ok j = true := by
  unfold parse at h
  dsimp only at h
  generalize norm _ = k at h
  split at h
  · cases h
  · rename_i hc
    injection h with h
    subst h
    revert hc
    cases ok k <;> simp
theorem ok_norm {j : J} (h : ok j = true) : norm j = j := ((ok_parts j).1 h).1
theorem ok_bare {j : J} (h : ok j = true) : ok ⟨j.n, j.d, []⟩ = true := by
  obtain ⟨h1, h2, h3, h4, h5, h6⟩ := (ok_parts j).1 h
  refine (ok_parts _).2 ⟨?_, h2, h3, (show isPart [] = true by decide), h5, h6⟩
  have e := h1
  unfold norm at e ⊢
  have := congrArg J.n e
  have := congrArg J.d e
  simp_all
theorem put_inj {j k : J} (hj : ok j = true) (hk : ok k = true) (h : put j = put k) : j = k := by
  have h1 := parse_put j hj
  rw [h, parse_put k hk] at h1
  injection h1 with h1
  exact h1.symm
theorem put_eq {j k : J} (hj : ok j = true) (hk : ok k = true) : decide (put j = put k) = decide (j = k) := by
  rw [decide_eq_decide]
  exact ⟨put_inj hj hk, fun h => by rw [h]⟩
theorem put_len (j : J) : (put j).length ≤ j.n.length + j.d.length + j.r.length + 2 := by
  unfold put
  rw [List.length_append]
  split <;> split <;> simp <;> omega
theorem trimLe (l : List UInt8) : (trimPoint l).length ≤ l.length := by
  unfold trimPoint; split
  · rw [List.length_dropLast]; omega
  · exact Nat.le_refl _
end Go.Proofs.YtnaimienfgpgmaaDoor.JidP

/- wharfref03.Is and Put at this translation: walks. -/
set_option linter.unusedVariables false
set_option linter.unusedSimpArgs false
namespace Go.Proofs.YtnaimienfgpgmaaDoor.Jid
open Go.RowKit GlyP Gly Strs JidP

/-! ### plain -/
def domOk : Bool → List UInt8 → Bool
  | p, [] => !p
  | p, x :: l => if x = 46 then !p && domOk true l else labelB x && domOk false l
theorem pieces_dom : ∀ l, ∃ q qs, pieces 46 l = q :: qs ∧ domOk false l = (q.all labelB && qs.all isLabel) ∧ domOk true l = (isLabel q && qs.all isLabel)
  | [] => ⟨[], [], rfl, rfl, rfl⟩
  | x :: l => by
    obtain ⟨q, qs, h1, h2, h3⟩ := pieces_dom l
    by_cases hx : x = 46
    · refine ⟨[], q :: qs, by simp [pieces, hx, h1], ?_, ?_⟩
      · simp [domOk, hx, h3]
      · simp [domOk, hx, isLabel]
    · refine ⟨x :: q, qs, by simp [pieces, hx, h1], ?_, ?_⟩
      · simp [domOk, hx, h2, Bool.and_assoc]
      · simp [domOk, hx, h2, isLabel, Bool.and_assoc]
theorem pieces_ok (l : List UInt8) : (pieces 46 l).all isLabel = domOk true l := by
  obtain ⟨q, qs, h1, _, h3⟩ := pieces_dom l
  rw [h1, h3]; rfl
theorem label_low (x : UInt8) (h : labelB x = true) : low x = x := by
  unfold low
  rw [if_neg]
  rintro ⟨h1, h2⟩
  rw [UInt8.le_iff_toNat_le] at h1 h2
  unfold labelB at h
  simp [UInt8.le_iff_toNat_le, ← UInt8.toNat_inj] at h
  simp at h1 h2
  omega
theorem dom_low : ∀ (l : List UInt8) (p : Bool), domOk p l = true → l.map low = l ∧ (l ≠ [] → l.getLast? ≠ some 46) ∧ (l = [] → p = false)
  | [], p, h => ⟨rfl, fun h => absurd rfl h, fun _ => by cases p <;> simp_all [domOk]⟩
  | x :: l, p, h => by
    simp only [domOk] at h
    by_cases hx : x = 46
    · rw [if_pos hx, Bool.and_eq_true] at h
      obtain ⟨ih1, ih2, ih3⟩ := dom_low l true h.2
      have hne : l ≠ [] := fun e => by have := ih3 e; cases this
      refine ⟨by rw [List.map_cons, ih1, hx]; rfl, fun _ => ?_, fun h => by cases h⟩
      rw [List.getLast?_cons]
      have := ih2 hne
      cases hq : l.getLast? with
      | none => rw [List.getLast?_eq_none_iff] at hq; exact absurd hq hne
      | some y => rw [hq] at this; simpa using this
    · rw [if_neg hx, Bool.and_eq_true] at h
      obtain ⟨ih1, ih2, ih3⟩ := dom_low l false h.2
      refine ⟨by rw [List.map_cons, ih1, label_low x h.1], fun _ => ?_, fun h => by cases h⟩
      rw [List.getLast?_cons]
      cases hq : l.getLast? with
      | none => simpa using hx
      | some y =>
        have hne : l ≠ [] := fun e => by rw [e] at hq; cases hq
        have := ih2 hne
        rw [hq] at this; simpa using this
def nodeR (l : List UInt8) : Bool := l.all fun c => !(nodeBad.contains c) && !(decide (65 ≤ c) && decide (c ≤ 90))
theorem low_iff (x : UInt8) : (low x = x) ↔ ¬ (65 ≤ x ∧ x ≤ 90) := by
  unfold low
  constructor
  · intro h hc
    rw [if_pos hc] at h
    have h2 := congrArg UInt8.toNat h
    rw [UInt8.toNat_add] at h2
    have := x.toNat_lt
    simp at h2; omega
  · intro h; rw [if_neg h]
theorem map_low_iff (l : List UInt8) : (l.map low = l) ↔ ∀ x ∈ l, ¬ (65 ≤ x ∧ x ≤ 90) := by
  constructor
  · intro h x hx
    rw [← low_iff]
    obtain ⟨i, hi, rfl⟩ := List.getElem_of_mem hx
    have := congrArg (fun m => m[i]?) h
    simp [List.getElem?_eq_getElem hi] at this
    exact this
  · intro h
    conv => rhs; rw [← List.map_id l]
    exact List.map_congr_left fun x hx => (low_iff x).mpr (h x hx)
theorem ok_eq (j : J) : ok j = (isPart j.n && (isPart j.d && (isPart j.r && (nodeR j.n && domOk true j.d)))) := by
  unfold ok
  rw [pieces_ok]
  cases hd : domOk true j.d with
  | false => simp
  | true =>
    obtain ⟨h1, h2, h3⟩ := dom_low _ _ hd
    have hne : j.d ≠ [] := fun e => by have := h3 e; cases this
    have ht : trimPoint (j.d.map low) = j.d := by
      rw [h1]; unfold trimPoint; rw [if_neg (h2 hne)]
    have hn : (norm j == j) = decide (j.n.map low = j.n) := by
      unfold norm
      rw [ht, Bool.eq_iff_iff, beq_iff_eq, decide_eq_true_eq]
      constructor
      · intro h; exact congrArg J.n h
      · intro h; cases j; simp_all
    have hr : nodeR j.n = (decide (j.n.map low = j.n) && isNode j.n) := by
      rw [Bool.eq_iff_iff, Bool.and_eq_true, decide_eq_true_eq, map_low_iff]
      unfold nodeR isNode
      rw [List.all_eq_true, List.all_eq_true]
      constructor
      · intro h
        refine ⟨fun x hx => ?_, fun x hx => ?_⟩
        · have := h x hx
          rw [Bool.and_eq_true, Bool.not_eq_true', Bool.not_eq_true', Bool.and_eq_false_iff, decide_eq_false_iff_not, decide_eq_false_iff_not] at this
          rintro ⟨c1, c2⟩
          rcases this.2 with h | h
          · exact h c1
          · exact h c2
        · have := h x hx
          rw [Bool.and_eq_true] at this
          exact this.1
      · rintro ⟨ha, hb⟩ x hx
        rw [Bool.and_eq_true]
        refine ⟨hb x hx, ?_⟩
        have := ha x hx
        rw [Bool.not_eq_true', Bool.and_eq_false_iff, decide_eq_false_iff_not, decide_eq_false_iff_not]
        by_cases h65 : 65 ≤ x
        · exact .inr fun h90 => this ⟨h65, h90⟩
        · exact .inl h65
    rw [hn, hr]
    generalize isPart j.n = x1
    generalize isPart j.d = x2
    generalize isPart j.r = x3
    generalize isNode j.n = x4
    generalize decide (j.n.map low = j.n) = x5
    cases x1 <;> cases x2 <;> cases x3 <;> cases x4 <;> cases x5 <;> rfl

/-! ### the callees -/
abbrev RTextSays (s : ByteArray) (r : Bool) : Prop := Hid (∀ w, Calls Tryd.prog 50 #[.string s] w fun e w' => e = .returned (.bool r) ∧ Below w.heap.size w w')
theorem rtext (s : ByteArray) (hs : s.size ≤ 68719476736) (r : Bool) (h : isPart s.data.toList = r) : RTextSays s r := Lib.hid fun w => by
  obtain ⟨k, hk⟩ := (RaP.text_ev s (by omega)).rounds
  subst h
  exact Ra.wharfref03_text.calls k s _ w hk
theorem rin (c : UInt8) (n : Int) (hn : n = (c.toNat : Int)) (w : World) :
    Calls Tryd.prog 51 #[.int .u8 n, .string ⟨#[32, 34, 38, 39, 47, 58, 60, 62, 64]⟩] w fun e w' => e = .returned (.bool (nodeBad.contains c)) ∧ ∃ m, w' = w.drewN m := by
  obtain ⟨k, hk⟩ := (RaP.in_ev ⟨#[32, 34, 38, 39, 47, 58, 60, 62, 64]⟩ c (by decide)).rounds
  subst hn
  exact (Ra.wharfref03_in.calls k _ _ _ w hk).mono fun e w' ⟨h1, h2⟩ => ⟨h1, h2.out⟩

/-- Is the sign ahead of place k a point, or the front? -/
def pd (l : List UInt8) : Nat → Bool
  | 0 => true
  | k + 1 => l.getD k 0 == 46
theorem pd_succ (s : ByteArray) (k : Nat) (h : k < s.size) : pd s.data.toList (k + 1) = (s[k] == 46) := by
  show (s.data.toList.getD k 0 == 46) = _
  rw [List.getD_eq_getElem?_getD, List.getElem?_eq_getElem (by rw [U.len_data]; exact h)]; rfl
theorem dom_step (s : ByteArray) (k : Nat) (h : k < s.size) (p : Bool) : domOk p (s.data.toList.drop k) = if s[k] = 46 then !p && domOk true (s.data.toList.drop (k + 1)) else labelB s[k] && domOk false (s.data.toList.drop (k + 1)) := by
  rw [U.u8_at s k h]; rfl
theorem dom_end (s : ByteArray) (k : Nat) (h : k = s.size) (p : Bool) : domOk p (s.data.toList.drop k) = !p := by
  rw [h, List.drop_eq_nil_of_le (by rw [U.len_data]; omega)]; rfl

/-! ### Is -/
set_option maxHeartbeats 1000000 in
theorem RIs_a (a b c : ByteArray) (HA : RTextSays a false) (w : World) :
    Calls Tryd.prog 30 #[.agg #[.string a, .string b, .string c]] w fun e w' => e = .returned (.bool false) ∧ Below w.heap.size w w' := by
  have K0 := Lib.hid ((Keep.start w).alloc a b c)
  go_enter Tryd.func30, Tryd.ntmps30
  go_wp2_with fail
  refine (HA.out _).mono ?_
  rintro e w1 ⟨rfl, hb1⟩
  have K1 := Lib.hid (K0.out.below hb1)
  clear hb1
  go_wp2
  go_ret
  exact ⟨rfl, K1.out.low⟩
set_option maxHeartbeats 1000000 in
theorem RIs_b (a b c : ByteArray) (HA : RTextSays a true) (HB : RTextSays b false) (w : World) :
    Calls Tryd.prog 30 #[.agg #[.string a, .string b, .string c]] w fun e w' => e = .returned (.bool false) ∧ Below w.heap.size w w' := by
  have K0 := Lib.hid ((Keep.start w).alloc a b c)
  go_enter Tryd.func30, Tryd.ntmps30
  go_wp2_with fail
  refine (HA.out _).mono ?_
  rintro e w1 ⟨rfl, hb1⟩
  have K1 := Lib.hid (K0.out.below hb1)
  obtain ⟨c0, c1, c2⟩ := K1.out.box w.heap.size _ _ _ List.mem_cons_self
  clear hb1
  go_wp2_with fail
  refine (HB.out _).mono ?_
  rintro e w2 ⟨rfl, hb2⟩
  have K2 := Lib.hid (K1.out.below hb2)
  clear hb2
  go_wp2
  go_ret
  exact ⟨rfl, K2.out.low⟩
set_option maxHeartbeats 1000000 in
theorem RIs_c (a b c : ByteArray) (HA : RTextSays a true) (HB : RTextSays b true) (HC : RTextSays c false) (w : World) :
    Calls Tryd.prog 30 #[.agg #[.string a, .string b, .string c]] w fun e w' => e = .returned (.bool false) ∧ Below w.heap.size w w' := by
  have K0 := Lib.hid ((Keep.start w).alloc a b c)
  go_enter Tryd.func30, Tryd.ntmps30
  go_wp2_with fail
  refine (HA.out _).mono ?_
  rintro e w1 ⟨rfl, hb1⟩
  have K1 := Lib.hid (K0.out.below hb1)
  obtain ⟨c0, c1, c2⟩ := K1.out.box w.heap.size _ _ _ List.mem_cons_self
  clear hb1
  go_wp2_with fail
  refine (HB.out _).mono ?_
  rintro e w2 ⟨rfl, hb2⟩
  have K2 := Lib.hid (K1.out.below hb2)
  obtain ⟨d0, d1, d2⟩ := K2.out.box w.heap.size _ _ _ List.mem_cons_self
  clear hb2 c0 c1 c2
  go_wp2_with fail
  refine (HC.out _).mono ?_
  rintro e w3 ⟨rfl, hb3⟩
  have K3 := Lib.hid (K2.out.below hb3)
  clear hb3 d0 d1 d2
  go_wp2
  go_ret
  exact ⟨rfl, K3.out.low⟩
theorem nodeR_at (s : ByteArray) (k : Nat) (h : k < s.size) : (s.data.toList.drop k).all (fun c => !(nodeBad.contains c) && !(decide (65 ≤ c) && decide (c ≤ 90))) = ((!(nodeBad.contains s[k]) && !(decide (65 ≤ s[k]) && decide (s[k] ≤ 90))) && (s.data.toList.drop (k + 1)).all (fun c => !(nodeBad.contains c) && !(decide (65 ≤ c) && decide (c ≤ 90)))) := by
  rw [U.u8_at s k h]; rfl
theorem up_int (c : UInt8) : (decide (65 ≤ c) && decide (c ≤ 90)) = (decide (65 ≤ (c.toNat : Int)) && decide ((c.toNat : Int) ≤ 90)) := by
  have e1 : (65 ≤ c) ↔ ((65 : Int) ≤ (c.toNat : Int)) := by rw [UInt8.le_iff_toNat_le]; simp; omega
  have e2 : (c ≤ 90) ↔ ((c.toNat : Int) ≤ 90) := by rw [UInt8.le_iff_toNat_le]; simp; omega
  rw [decide_eq_decide.2 e1, decide_eq_decide.2 e2]
def rest (b : ByteArray) (k : Nat) : Prop := domOk (pd b.data.toList k) (b.data.toList.drop k) = domOk true b.data.toList ∧ (0 < k → k = b.size → pd b.data.toList k = false)
theorem rest_0 (b : ByteArray) : rest b 0 := ⟨rfl, fun h => by omega⟩
theorem rest_label (b : ByteArray) (k : Nat) (hk : k < b.size) (h : rest b k) (hl : labelB b[k] = true) : rest b (k + 1) := by
  have hne : ¬ b[k] = 46 := fun e => by rw [e] at hl; revert hl; decide
  have hp : pd b.data.toList (k + 1) = false := by rw [pd_succ b k hk, beq_eq_false_iff_ne]; exact hne
  refine ⟨?_, fun _ _ => hp⟩
  rw [← h.1, dom_step b k hk, if_neg hne, hl, hp]; rfl
theorem rest_point (b : ByteArray) (k : Nat) (hk : k < b.size) (h : rest b k) (hl : b[k] = 46) (hp : pd b.data.toList k = false) (hn : k + 1 < b.size) : rest b (k + 1) := by
  have hp2 : pd b.data.toList (k + 1) = true := by rw [pd_succ b k hk, hl]; rfl
  refine ⟨?_, fun _ h => by omega⟩
  rw [← h.1, dom_step b k hk, if_pos hl, hp, hp2]; rfl
theorem rest_no1 (b : ByteArray) (k : Nat) (hk : k < b.size) (h : rest b k) (hl : b[k] = 46) (hp : pd b.data.toList k = true) : domOk true b.data.toList = false := by
  rw [← h.1, dom_step b k hk, if_pos hl, hp]; rfl
theorem rest_no2 (b : ByteArray) (k : Nat) (hk : k < b.size) (h : rest b k) (hl : b[k] = 46) (hn : k + 1 = b.size) : domOk true b.data.toList = false := by
  rw [← h.1, dom_step b k hk, if_pos hl, dom_end b (k + 1) hn]; simp
theorem rest_no3 (b : ByteArray) (k : Nat) (hk : k < b.size) (h : rest b k) (hl : ¬ b[k] = 46) (hp : labelB b[k] = false) : domOk true b.data.toList = false := by
  rw [← h.1, dom_step b k hk, if_neg hl, hp]; rfl
theorem rest_end (b : ByteArray) (k : Nat) (hk : k = b.size) (h0 : 0 < b.size) (h : rest b k) : domOk true b.data.toList = true := by
  rw [← h.1, dom_end b k hk, h.2 (by omega) hk]; rfl

set_option maxHeartbeats 1000000 in
theorem RIs_d (a b c : ByteArray) (HA : RTextSays a true) (HB : RTextSays b true) (HC : RTextSays c true) (hz : b.size = 0) (w : World) :
    Calls Tryd.prog 30 #[.agg #[.string a, .string b, .string c]] w fun e w' => e = .returned (.bool false) ∧ Below w.heap.size w w' := by
  have K0 := Lib.hid ((Keep.start w).alloc a b c)
  have e1 := U.toList_nil b hz
  clear hz
  go_enter Tryd.func30, Tryd.ntmps30
  go_wp2_with fail
  refine (HA.out _).mono ?_
  rintro e w1 ⟨rfl, hb1⟩
  have K1 := Lib.hid (K0.out.below hb1)
  obtain ⟨c0, c1, c2⟩ := K1.out.box w.heap.size _ _ _ List.mem_cons_self
  clear hb1
  go_wp2_with fail
  refine (HB.out _).mono ?_
  rintro e w2 ⟨rfl, hb2⟩
  have K2 := Lib.hid (K1.out.below hb2)
  obtain ⟨d0, d1, d2⟩ := K2.out.box w.heap.size _ _ _ List.mem_cons_self
  clear hb2 c0 c1 c2
  go_wp2_with fail
  refine (HC.out _).mono ?_
  rintro e w3 ⟨rfl, hb3⟩
  have K3 := Lib.hid (K2.out.below hb3)
  obtain ⟨f0, f1, f2⟩ := K3.out.box w.heap.size _ _ _ List.mem_cons_self
  clear hb3 d0 d1 d2
  go_wp2
  go_ret
  exact ⟨rfl, K3.out.low⟩

set_option maxRecDepth 100000 in
set_option maxHeartbeats 4000000 in
theorem RIs_main (a b c : ByteArray) (HA : RTextSays a true) (HB : RTextSays b true) (HC : RTextSays c true) (hz : 0 < b.size) (hsa : a.size ≤ 68719476736) (hsb : b.size ≤ 68719476736) (w : World) :
    Calls Tryd.prog 30 #[.agg #[.string a, .string b, .string c]] w fun e w' => e = .returned (.bool (nodeR a.data.toList && domOk true b.data.toList)) ∧ Below w.heap.size w w' := by
  have K0 := Lib.hid ((Keep.start w).alloc a b c)
  have e1 := U.isEmpty_false b hz
  go_enter Tryd.func30, Tryd.ntmps30
  go_wp2_with fail
  refine (HA.out _).mono ?_
  rintro e w1 ⟨rfl, hb1⟩
  have K1 := Lib.hid (K0.out.below hb1)
  obtain ⟨c0, c1, c2⟩ := K1.out.box w.heap.size _ _ _ List.mem_cons_self
  clear hb1
  go_wp2_with fail
  refine (HB.out _).mono ?_
  rintro e w2 ⟨rfl, hb2⟩
  have K2 := Lib.hid (K1.out.below hb2)
  obtain ⟨d0, d1, d2⟩ := K2.out.box w.heap.size _ _ _ List.mem_cons_self
  clear hb2 c0 c1 c2
  go_wp2_with fail
  refine (HC.out _).mono ?_
  rintro e w3 ⟨rfl, hb3⟩
  have K3 := Lib.hid (K2.out.below hb3)
  obtain ⟨f0, f1, f2⟩ := K3.out.box w.heap.size _ _ _ List.mem_cons_self
  clear hb3 d0 d1 d2
  go_wp2_with fail
  clear e1 f0 f1 f2
  go_loopw [3] (fun i wr => ∃ k : Nat, k ≤ a.size ∧ i = .int .i64 k ∧ Hid (nodeR a.data.toList = (a.data.toList.drop k).all (fun c => !(nodeBad.contains c) && !(decide (65 ≤ c) && decide (c ≤ 90)))) ∧ Hid (Keep w [(w.heap.size, a, b, c)] wr)) (fun i _ => a.size - (intOf i).toNat)
  case atStart => exact ⟨0, by omega, rfl, Lib.hid rfl, K3⟩
  case round =>
    obtain ⟨k, hk, rfl, HN, KR⟩ := hrel
    obtain ⟨f0, f1, f2⟩ := KR.out.box w.heap.size _ _ _ List.mem_cons_self
    by_cases hlt : k < a.size
    · have HS := Lib.hid (nodeR_at a k hlt)
      have HU := Lib.hid (up_int a[k])
      go_wp2_with fail
      refine (rin a[k] _ rfl _).mono ?_
      rintro e w4 ⟨rfl, ⟨m, rfl⟩⟩
      have KM := Lib.hid (show Keep w [(w.heap.size, a, b, c)] (wr.drewN m) from ⟨fun p hp => U.At.drewN (KR.out.cells p hp) m, U.below_drewN KR.out.low m⟩)
      cases hn : nodeBad.contains a[k] with
      | true =>
        have HV := Lib.hid (show nodeR a.data.toList = false from by rw [HN.out, HS.out, hn]; rfl)
        clear hn
        go_wp2
        go_ret
        exact ⟨by rw [HV.out]; rfl, KM.out.low⟩
      | false =>
        have HX := Lib.hid hn
        clear hn
        by_cases h65 : (a[k].toNat : Int) < 65
        · have HY := Lib.hid (show (decide (65 ≤ a[k]) && decide (a[k] ≤ 90)) = false from by rw [HU.out, decide_eq_false (by omega)]; rfl)
          go_wp2
          go_roundw
          case rel => exact ⟨k + 1, by omega, by go_num, Lib.hid (by rw [HN.out, HS.out, HX.out, HY.out]; rfl), KM⟩
          case measure => simp [intOf]; omega
        · by_cases h90 : (90 : Int) < (a[k].toNat : Int)
          · have HY := Lib.hid (show (decide (65 ≤ a[k]) && decide (a[k] ≤ 90)) = false from by rw [HU.out, decide_eq_false (show ¬ (a[k].toNat : Int) ≤ 90 by omega), Bool.and_false])
            go_wp2
            go_roundw
            case rel => exact ⟨k + 1, by omega, by go_num, Lib.hid (by rw [HN.out, HS.out, HX.out, HY.out]; rfl), KM⟩
            case measure => simp [intOf]; omega
          · have HV := Lib.hid (show nodeR a.data.toList = false from by rw [HN.out, HS.out, HX.out, HU.out, decide_eq_true (show (65 : Int) ≤ (a[k].toNat : Int) by omega), decide_eq_true (show (a[k].toNat : Int) ≤ 90 by omega)]; rfl)
            go_wp2
            go_ret
            exact ⟨by rw [HV.out]; rfl, KM.out.low⟩
    · have hkk : k = a.size := by omega
      have HV := Lib.hid (show nodeR a.data.toList = true from by rw [HN.out]; exact all_end a k hkk _)
      clear hkk
      go_wp2_with fail
      clear f0 f1 f2
      go_loop [5] (fun i => ∃ k : Nat, k ≤ b.size ∧ i = .int .i64 k ∧ Hid (rest b k)) (fun i => b.size - (intOf i).toNat)
      case atStart => exact ⟨0, by omega, rfl, Lib.hid (rest_0 b)⟩
      case round =>
        obtain ⟨j, hj, rfl, HR⟩ := hrel
        by_cases hjl : j < b.size
        · have HL := Lib.hid (label_int b[j])
          have hl46 : (b[j].toNat : Int) ≠ 46 → ¬ b[j] = 46 := fun h e => h (by rw [e]; rfl)
          by_cases h97 : (b[j].toNat : Int) < 97
          · by_cases h48 : (b[j].toNat : Int) < 48
            · by_cases h45 : (b[j].toNat : Int) = 45
              · have HB := Lib.hid (show labelB b[j] = true from by rw [HL.out, h45]; rfl)
                clear hl46 h97 h48
                go_wp2
                go_round
                case rel => exact ⟨j + 1, by omega, by go_num, Lib.hid (rest_label b j hjl HR.out HB.out)⟩
                case measure => simp [intOf]; omega
              · by_cases h46 : (b[j].toNat : Int) = 46
                · have HP := Lib.hid (show b[j] = 46 from by rw [← UInt8.toNat_inj]; have : (46 : UInt8).toNat = 46 := rfl; omega)
                  clear hl46 h97 h48 h45
                  rcases Nat.eq_zero_or_pos j with hj0 | hj0
                  · have HW := Lib.hid (rest_no1 b j hjl HR.out HP.out (by rw [hj0]; rfl))
                    subst hj0
                    go_wp2
                    go_ret
                    exact ⟨by (rw [HW.out, Bool.and_false]; try rfl), KR.out.low⟩
                  · obtain ⟨i, rfl⟩ : ∃ i, j = i + 1 := ⟨j - 1, by omega⟩
                    by_cases hend : i + 2 = b.size
                    · have HW := Lib.hid (rest_no2 b (i + 1) hjl HR.out HP.out (by omega))
                      have g1 : (((i : Int) + 1) == 0) = false := by rw [beq_eq_false_iff_ne]; omega
                      have g2 : (((i : Int) + 1) == (b.size : Int) - 1) = true := by rw [beq_iff_eq]; omega
                      clear hend
                      go_wp2
                      go_ret
                      exact ⟨by (rw [HW.out, Bool.and_false]; try rfl), KR.out.low⟩
                    · have g1 : (((i : Int) + 1) == 0) = false := by rw [beq_eq_false_iff_ne]; omega
                      have g2 : (((i : Int) + 1) == (b.size : Int) - 1) = false := by rw [beq_eq_false_iff_ne]; omega
                      have hps := pd_succ b i (by omega)
                      cases hp : (b[i] == 46) with
                      | true =>
                        have HW := Lib.hid (rest_no1 b (i + 1) hjl HR.out HP.out (by rw [hps, hp]))
                        have g3 : ((b[i].toNat : Int) == 46) = true := by rw [beq_iff_eq] at hp ⊢; rw [hp]; rfl
                        clear hp hps hend
                        go_wp2
                        go_ret
                        exact ⟨by (rw [HW.out, Bool.and_false]; try rfl), KR.out.low⟩
                      | false =>
                        have HW := Lib.hid (rest_point b (i + 1) hjl HR.out HP.out (by rw [hps, hp]) (by omega))
                        have g3 : ((b[i].toNat : Int) == 46) = false := by rw [beq_eq_false_iff_ne] at hp ⊢; intro h; apply hp; rw [← UInt8.toNat_inj]; have : (46 : UInt8).toNat = 46 := rfl; omega
                        clear hp hps hend
                        go_wp2
                        go_round
                        case rel => exact ⟨i + 1 + 1, by omega, by go_num, HW⟩
                        case measure => simp [intOf]; omega
                · have HW := Lib.hid (rest_no3 b j hjl HR.out (hl46 h46) (by rw [HL.out, decide_eq_false (show ¬ (97 : Int) ≤ (b[j].toNat : Int) by omega), decide_eq_false (show ¬ (48 : Int) ≤ (b[j].toNat : Int) by omega), show ((b[j].toNat : Int) == 45) = false from by rw [beq_eq_false_iff_ne]; exact h45]; rfl))
                  have q45 : ((b[j].toNat : Int) == 45) = false := by rw [beq_eq_false_iff_ne]; exact h45
                  have q46 : ((b[j].toNat : Int) == 46) = false := by rw [beq_eq_false_iff_ne]; exact h46
                  clear hl46
                  go_wp2
                  go_ret
                  exact ⟨by (rw [HW.out, Bool.and_false]; try rfl), KR.out.low⟩
            · by_cases h57 : (57 : Int) < (b[j].toNat : Int)
              · have q45 : ((b[j].toNat : Int) == 45) = false := by rw [beq_eq_false_iff_ne]; omega
                have q46 : ((b[j].toNat : Int) == 46) = false := by rw [beq_eq_false_iff_ne]; omega
                have HW := Lib.hid (rest_no3 b j hjl HR.out (hl46 (by omega)) (by rw [HL.out, decide_eq_false (show ¬ (97 : Int) ≤ (b[j].toNat : Int) by omega), decide_eq_false (show ¬ (b[j].toNat : Int) ≤ 57 by omega), q45, Bool.and_false]; rfl))
                clear hl46
                go_wp2
                go_ret
                exact ⟨by (rw [HW.out, Bool.and_false]; try rfl), KR.out.low⟩
              · have q45 : ((b[j].toNat : Int) == 45) = false := by rw [beq_eq_false_iff_ne]; omega
                have q46 : ((b[j].toNat : Int) == 46) = false := by rw [beq_eq_false_iff_ne]; omega
                have HB := Lib.hid (show labelB b[j] = true from by rw [HL.out, decide_eq_true (show (48 : Int) ≤ (b[j].toNat : Int) by omega), decide_eq_true (show (b[j].toNat : Int) ≤ 57 by omega)]; simp)
                clear hl46
                go_wp2
                go_round
                case rel => exact ⟨j + 1, by omega, by go_num, Lib.hid (rest_label b j hjl HR.out HB.out)⟩
                case measure => simp [intOf]; omega
          · have q45 : ((b[j].toNat : Int) == 45) = false := by rw [beq_eq_false_iff_ne]; omega
            have q46 : ((b[j].toNat : Int) == 46) = false := by rw [beq_eq_false_iff_ne]; omega
            have q57 : (57 : Int) < (b[j].toNat : Int) := by omega
            have q48 : ¬ (b[j].toNat : Int) < 48 := by omega
            by_cases h122 : (122 : Int) < (b[j].toNat : Int)
            · have HW := Lib.hid (rest_no3 b j hjl HR.out (hl46 (by omega)) (by rw [HL.out, decide_eq_false (show ¬ (b[j].toNat : Int) ≤ 122 by omega), decide_eq_false (show ¬ (b[j].toNat : Int) ≤ 57 by omega), q45, Bool.and_false, Bool.and_false]; rfl))
              clear hl46
              go_wp2
              go_ret
              exact ⟨by (rw [HW.out, Bool.and_false]; try rfl), KR.out.low⟩
            · have HB := Lib.hid (show labelB b[j] = true from by rw [HL.out, decide_eq_true (show (97 : Int) ≤ (b[j].toNat : Int) by omega), decide_eq_true (show (b[j].toNat : Int) ≤ 122 by omega)]; rfl)
              clear hl46
              go_wp2
              go_round
              case rel => exact ⟨j + 1, by omega, by go_num, Lib.hid (rest_label b j hjl HR.out HB.out)⟩
              case measure => simp [intOf]; omega
        · have hjj : j = b.size := by omega
          have HD := Lib.hid (rest_end b j hjj hz HR.out)
          clear hjj
          go_wp2
          go_ret
          exact ⟨by rw [HV.out, HD.out]; rfl, KR.out.low⟩

theorem RIs_any (a b c : ByteArray) (ha : a.size ≤ 68719476736) (hb : b.size ≤ 68719476736) (hc : c.size ≤ 68719476736) (w : World) :
    Calls Tryd.prog 30 #[.agg #[.string a, .string b, .string c]] w fun e w' => e = .returned (.bool (ok (jOf a b c))) ∧ Below w.heap.size w w' := by
  rw [ok_eq]
  unfold jOf
  simp only
  cases h1 : isPart a.data.toList with
  | false => exact RIs_a a b c (rtext a ha _ h1) w
  | true =>
    cases h2 : isPart b.data.toList with
    | false => exact RIs_b a b c (rtext a ha _ h1) (rtext b hb _ h2) w
    | true =>
      cases h3 : isPart c.data.toList with
      | false => exact RIs_c a b c (rtext a ha _ h1) (rtext b hb _ h2) (rtext c hc _ h3) w
      | true =>
        rcases Nat.eq_zero_or_pos b.size with hz | hz
        · have e : b.data.toList = [] := by rw [← Lib.toList_data]; exact U.toList_nil b hz
          have := RIs_d a b c (rtext a ha _ h1) (rtext b hb _ h2) (rtext c hc _ h3) hz w
          rw [e]
          simpa [domOk] using this
        · exact RIs_main a b c (rtext a ha _ h1) (rtext b hb _ h2) (rtext c hc _ h3) hz ha hb w

/-! ### Put -/
end Go.Proofs.YtnaimienfgpgmaaDoor.Jid

/- Layer 3's functions as the printed texts want them: what each returns, as a function that may fail past 2^36 bytes. -/
set_option linter.unusedVariables false
namespace Go.Proofs.YtnaimienfgpgmaaDoor.F
open Go.RowKit GlyP JidP
/-- A bound on lengths. -/
def jl : Nat := 68719476736
abbrev jl3 (a b c : ByteArray) : Prop := a.size ≤ jl ∧ b.size ≤ jl ∧ c.size ≤ jl
def jid_Check.f (a b c : ByteArray) : Option Int := if jl3 a b c then some (if ok (Jid.jOf a b c) = true then 0 else 30) else none
theorem jid_Check.calls (a b c : ByteArray) (r : Int) (w : World) (h : jid_Check.f a b c = some r) :
    Calls Tryd.prog 28 #[.agg #[.string a, .string b, .string c]] w fun e w' => e = .returned (.int .i64 r) ∧ Below w.heap.size w w' := by
  unfold jid_Check.f at h
  by_cases hc : jl3 a b c
  · rw [if_pos hc] at h
    obtain rfl := Option.some.inj h
    exact Jid.Check_any a b c hc.1 hc.2.1 hc.2.2 w
  · rw [if_neg hc] at h; cases h
def jid_Norm.f (a b c : ByteArray) : Option (ByteArray × ByteArray × ByteArray) := if jl3 a b c then some (⟨(a.data.toList.map Gly.low).toArray⟩, ⟨(trimPoint (b.data.toList.map Gly.low)).toArray⟩, c) else none
theorem jid_Norm.calls (a b c r1 r2 r3 : ByteArray) (w : World) (h : jid_Norm.f a b c = some (r1, r2, r3)) :
    Calls Tryd.prog 42 #[.agg #[.string a, .string b, .string c]] w fun e w' => e = .returned (.agg #[.string r1, .string r2, .string r3]) ∧ Below w.heap.size w w' := by
  unfold jid_Norm.f at h
  by_cases hc : jl3 a b c
  · rw [if_pos hc] at h
    obtain ⟨rfl, h2⟩ := Prod.mk.inj (Option.some.inj h)
    obtain ⟨rfl, rfl⟩ := Prod.mk.inj h2
    exact Jid.Norm_any a b c hc.1 hc.2.1 w
  · rw [if_neg hc] at h; cases h
def jid_Put.f (a b c : ByteArray) : Option ByteArray := if jl3 a b c then some (Jid.putB a b c) else none
def jid_Bare.f (a b c : ByteArray) : Option (ByteArray × ByteArray × ByteArray) := some (a, b, ⟨#[]⟩)
def jid_With.f (a b c d : ByteArray) : Option (ByteArray × ByteArray × ByteArray) := some (a, b, d)
/-- What a parse comes to. -/
def pOut (o : Option J) : ByteArray × ByteArray × ByteArray × Int := match o with | some j => (⟨j.n.toArray⟩, ⟨j.d.toArray⟩, ⟨j.r.toArray⟩, 0) | none => (⟨#[]⟩, ⟨#[]⟩, ⟨#[]⟩, 30)
def jid_Parse.f (s : ByteArray) : Option (ByteArray × ByteArray × ByteArray × Int) := if s.size ≤ jl then some (pOut (parse s.data.toList)) else none
def wharfref03_Is.f (a b c : ByteArray) : Option Bool := if jl3 a b c then some (ok (Jid.jOf a b c)) else none
theorem wharfref03_Is.calls (a b c : ByteArray) (r : Bool) (w : World) (h : wharfref03_Is.f a b c = some r) :
    Calls Tryd.prog 30 #[.agg #[.string a, .string b, .string c]] w fun e w' => e = .returned (.bool r) ∧ Below w.heap.size w w' := by
  unfold wharfref03_Is.f at h
  by_cases hc : jl3 a b c
  · rw [if_pos hc] at h
    obtain rfl := Option.some.inj h
    exact Jid.RIs_any a b c hc.1 hc.2.1 hc.2.2 w
  · rw [if_neg hc] at h; cases h
def wharfref03_Put.f (a b c : ByteArray) : Option ByteArray := if jl3 a b c then some (Jid.putB a b c) else none
def wharfref03_Norm.f (a b c : ByteArray) : Option (ByteArray × ByteArray × ByteArray) := if jl3 a b c then some (⟨(a.data.toList.map Gly.low).toArray⟩, ⟨(trimPoint (b.data.toList.map Gly.low)).toArray⟩, c) else none
def wharfref03_Bare.f (a b c : ByteArray) : Option (ByteArray × ByteArray × ByteArray) := some (a, b, ⟨#[]⟩)
def wharfref03_first.f (s : ByteArray) (c : Int) : Option Int := if s.size ≤ jl ∧ 0 ≤ c ∧ c < 256 then some (RaP.place (UInt8.ofNat c.toNat) s.data.toList) else none
def wharflaw03_live.f : Option Bool := some true
end Go.Proofs.YtnaimienfgpgmaaDoor.F

/- What layer 4's printed texts take as given: layers 1, 2 and 3. -/

/- What functions of this translation return, each a function of Lean and its contract; written by a program of the session. -/
namespace Go.Proofs.YtnaimienfgpgmaaDoor.Rc
open Go.RowKit Go.Proofs.YtnaimienfgpgmaaDoor.F Go.Proofs.YtnaimienfgpgmaaDoorW.PrintWords Go.Proofs.YtnaimienfgpgmaaDoorW.PrintLast Go.Proofs.YtnaimienfgpgmaaDoorW.PrintMore
attribute [local go_sem] max2_int min2_int max_two min_two max_three min_three max_four min_four   -- for this text's walks alone
set_option linter.unusedVariables false
set_option linter.unusedSimpArgs false



def errW : Option Int → Value
  | none => .nilIface
  | some c => .iface 0 (.int .i64 c)
theorem errW_none : errW none = .nilIface := rfl
theorem errW_some (c : Int) : errW (some c) = .iface 0 (.int .i64 c) := rfl

-- the values' own types

end Go.Proofs.YtnaimienfgpgmaaDoor.Rc
