/- Contracts of functions of this translation, and what they come to; what is not used is left out. -/
import Derived.Test.YtpjkbamkaicoiaaDoorYSesH1
import Derived.Test.YtpjkbamkaicoiaaDoorYSesH0
import Derived.Test.YtpjkbamkaicoiaaDoorYg3
import Derived.Test.YtpjkbamkaicoiaaDoorYg5
import Derived.Test.YtpjkbamkaicoiaaDoorYBox
import Derived.Test.YtpjkbamkaicoiaaDoorYCls
import Derived.Test.YtpjkbamkaicoiaaDoorYUtil
import Derived.Test.YtpjkbamkaicoiaaDoorYg4
import Derived.Test.YtpjkbamkaicoiaaDoorYg2p1
import Derived.Test.YtpjkbamkaicoiaaDoorYg2p0
import Derived.Test.YtpjkbamkaicoiaaDoorYSesB
import Derived.Test.YtpjkbamkaicoiaaDoorYSesE
import Derived.Test.YtpjkbamkaicoiaaDoorYg1
import Derived.Test.YtpjkbamkaicoiaaDoorYSoft
import Derived.Test.YtpjkbamkaicoiaaDoorYHanS
import Derived.Test.YtpjkbamkaicoiaaDoorYHanR
import Derived.Test.YtpjkbamkaicoiaaDoorYHanQ
import Derived.Test.YtpjkbamkaicoiaaDoorYRaQ
import Derived.Test.YtpjkbamkaicoiaaDoorYRefJ
import Derived.Test.YtpjkbamkaicoiaaDoorYRefF
import Derived.Test.YtpjkbamkaicoiaaDoorYGlyA
import Derived.Test.YtpjkbamkaicoiaaDoorYGlyP
import Derived.Test.YtpjkbamkaicoiaaDoorYJidP
import Derived.Test.YtpjkbamkaicoiaaDoorYStrs
import Derived.Test.YtpjkbamkaicoiaaDoorYShelf
import Derived.Test.YtpjkbamkaicoiaaDoorYRaP
import Derived.Test.YtpjkbamkaicoiaaDoorYRa2
import Derived.Test.YtpjkbamkaicoiaaDoorYRa1
import Derived.Test.YtpjkbamkaicoiaaDoorYRa0
import Derived.Test.YtpjkbamkaicoiaaDoorYg0
import Derived.Test.YtpjkbamkaicoiaaDoorYHanP
import Derived.Test.YtpjkbamkaicoiaaDoorYEscB
import Derived.Test.YtpjkbamkaicoiaaDoorYEscA
import Derived.Test.YtpjkbamkaicoiaaDoorYEscP
import Derived.Test.YtpjkbamkaicoiaaDoorYBld
import Derived.Test.YtpjkbamkaicoiaaDoorYHanA
import Derived.Test.YtpjkbamkaicoiaaDoorYRep
import Derived.Test.YtpjkbamkaicoiaaDoorYRc3
import Derived.Test.YtpjkbamkaicoiaaDoorYRc2
import Derived.Test.YtpjkbamkaicoiaaDoorYRc1
import Derived.Test.YtpjkbamkaicoiaaDoorYRc0
import Derived.Test.YtpjkbamkaicoiaaDoorYHanF

section
/- wharflaw15.SessionHeard. (Printed by gen_heard.py.) -/
set_option linter.unusedVariables false
set_option linter.unusedSimpArgs false
set_option maxRecDepth 100000
namespace Go.Proofs.YtpjkbamkaicoiaaDoor.Ses
open Go.RowKit U
set_option maxHeartbeats 16000000 in
theorem Heard_in (bn bp : ByteArray) (bs bt bc : Int) (wa : Option Addr) (wl wc : Nat) (nk : Int) (nn nt nd : ByteArray) (nc ns ni nm : Int) (nok : Bool) (ia : Option Addr) (il ic : Nat) (ja : Option Addr) (jl jc : Nat) (w : World) (hG : Good bn bp bs bt bc) (hn : bn.size + bp.size ≤ 12000) (hw : wl ≤ 20) (k3 : ¬ nk = 3) (k8 : ¬ nk = 8) (hW : Ints w wa wl) (hI : Items w ia il) (hl : il ≤ 9223372036854775807) (z1 : nn.size ≤ RB) (z2 : nt.size ≤ RB) (z3 : nd.size ≤ RB) (z4 : jl ≤ RB) : Calls Tryd.prog 4 #[.agg #[.string bn, .string bp, .int .i64 bs, .int .i64 bt, .int .i64 bc], .slice wa wl wc, .agg (NCL nk nn nt nd nc ns ni nm nok ia il ic ja jl jc)] w fun e w' => e = .returned (.bool true) ∧ Below w.heap.size w w' := by
  have HL := Lib.hid (Own.ret live_any)
  have HB := Lib.hid (begin_ok bn bp bs bt bc hG.hp hG.hl hG.s1 hG.s2 hG.c1 hG.c2 hG.t1 hG.t2 hG.hG hG.hC)
  have HINT := Lib.hid hW
  have HWT := Lib.hid (fun (W : World) (hb : Below w.heap.size w W) => Weight_some nk nn nt nd nc ns ni nm nok ia il ic ja jl jc 12000 W (hI.below hb) hl z1 z2 z3 z4 (by omega))
  clear hW hI hG hl z1 z2 z3 z4
  obtain ⟨g1, hg1⟩ : ∃ g, g = w.heap.size := ⟨_, rfl⟩
  obtain ⟨g2, hg2⟩ : ∃ g, g = w.heap.size + 1 := ⟨_, rfl⟩
  have H1' : Hid (Own w [(g2, 37, (NCL nk nn nt nd nc ns ni nm nok ia il ic ja jl jc)), (g1, 23, #[.string bn, .string bp, .int .i64 bs, .int .i64 bt, .int .i64 bc])] ((w.alloc (.cells #[.string bn, .string bp, .int .i64 bs, .int .i64 bt, .int .i64 bc] 23)).alloc (.cells (NCL nk nn nt nd nc ns ni nm nok ia il ic ja jl jc) 37))) := Lib.hid (((Own.start w).alloc _ _ hg1).alloc _ _ (by rw [hg2]; simp))
  go_enter Tryd.func4, Tryd.ntmps4
  go_wp2_with fail
  rw [← hg2]
  rw [← hg1]
  refine calls_own H1'.out (fun W1 hW => ?_)
  have H1 := Lib.hid hW
  clear hW H1' hg1 hg2
  refine (HWT.out _ H1.out.low).mono ?_
  rintro e W2 ⟨⟨r, rfl, hr⟩, hn2⟩
  have H2 := Lib.hid (H1.out.call hn2)
  clear hn2 H1 HWT
  by_cases hr2 : 12000 < r
  · go_wp2_with fail
    refine (HL.out _).mono ?_
    rintro e W3 ⟨rfl, hn3⟩
    have H3 := Lib.hid (H2.out.call hn3)
    clear hn3 H2
    go_wp2
    go_ret
    exact ⟨rfl, H3.out.low⟩
  · have hnd : nd.size ≤ 12000 := by omega
    obtain ⟨D, _, hD, _⟩ := salteds nd bp (by omega) (by omega)
    have HD := Lib.hid hD
    clear hD
    have c0 : W2.cell? ⟨g2, 0, none⟩ = some (.int .i64 nk) := H2.out.cell 0 0 rfl rfl
    have b0 : W2.cell? ⟨g1, 0, none⟩ = some (.string bn) := H2.out.cell 1 0 rfl rfl
    have b1 : W2.cell? ⟨g1, 1, none⟩ = some (.string bp) := H2.out.cell 1 1 rfl rfl
    have b2 : W2.cell? ⟨g1, 2, none⟩ = some (.int .i64 bs) := H2.out.cell 1 2 rfl rfl
    have b3 : W2.cell? ⟨g1, 3, none⟩ = some (.int .i64 bt) := H2.out.cell 1 3 rfl rfl
    have b4 : W2.cell? ⟨g1, 4, none⟩ = some (.int .i64 bc) := H2.out.cell 1 4 rfl rfl
    have e1 : decide ((12000 : Int) < ↑bn.size + ↑bp.size) = false := decide_eq_false (by omega)
    have e2 : decide ((20 : Int) < ↑wl) = false := decide_eq_false (by omega)
    have e3 : decide (12000 < r) = false := decide_eq_false hr2
    have e4 : (nk == 3) = false := beq_eq_false_iff_ne.mpr k3
    have e5 : (nk == 8) = false := beq_eq_false_iff_ne.mpr k8
    go_wp2_with fail
    clear c0 b0 b1 b2 b3 b4 e1 e2 e3 e4 e5
    refine (HB.out _).mono ?_
    rintro e W3 ⟨r1, rfl, hn3⟩
    have H3 := Lib.hid (H2.out.call hn3)
    clear hn3 H2 HB
    obtain ⟨g3, hg3⟩ : ∃ g, g = W3.heap.size := ⟨_, rfl⟩
    obtain ⟨g4, hg4⟩ : ∃ g, g = W3.heap.size + 1 := ⟨_, rfl⟩
    have H4 : Hid (Own w [(g4, 29, #[.slice (some ⟨r1, 0, none⟩) 2 2, .bool true, .slice none 0 0]), (g3, 26, #[.int .i64 1, .string bn, .string bp, .int .i64 bs, .int .i64 bt, .int .i64 bc, .int .i64 0, .int .i64 0, .int .i64 0]), (r1, 37, #[.int .i64 1, .string ⟨#[]⟩, .string ⟨#[]⟩, .string ⟨#[]⟩, .int .i64 0, .int .i64 0, .int .i64 0, .int .i64 0, .bool false, .slice none 0 0, .slice none 0 0, .int .i64 5, .string bn, .string ⟨#[]⟩, .string ⟨#[]⟩, .int .i64 0, .int .i64 0, .int .i64 0, .int .i64 0, .bool false, .slice none 0 0, .slice none 0 0]), (g2, 37, (NCL nk nn nt nd nc ns ni nm nok ia il ic ja jl jc)), (g1, 23, #[.string bn, .string bp, .int .i64 bs, .int .i64 bt, .int .i64 bc])] ((W3.alloc (.cells #[.int .i64 1, .string bn, .string bp, .int .i64 bs, .int .i64 bt, .int .i64 bc, .int .i64 0, .int .i64 0, .int .i64 0] 26)).alloc (.cells #[.slice (some ⟨r1, 0, none⟩) 2 2, .bool true, .slice none 0 0] 29))) := Lib.hid (((H3.out.alloc 26 #[.int .i64 1, .string bn, .string bp, .int .i64 bs, .int .i64 bt, .int .i64 bc, .int .i64 0, .int .i64 0, .int .i64 0] hg3).alloc 29 #[.slice (some ⟨r1, 0, none⟩) 2 2, .bool true, .slice none 0 0] (g := g4) (by rw [hg4]; simp)).cast (by kernel_rfl) (by kernel_rfl))
    clear H3
    go_wp2
    rw [← hg4]
    rw [← hg3]
    clear hg3 hg4
    go_loopw [10] (fun i wr => ∃ (k : Nat) (ph sa : Int), k ≤ wl ∧ i = .int .i64 k ∧ (ph = 1 ∨ ph = 2) ∧ 0 ≤ sa ∧ sa ≤ 89 * k ∧ Hid (Own w [(g4, 29, #[.slice (some ⟨r1, 0, none⟩) 2 2, .bool true, .slice none 0 0]), (g3, 26, #[.int .i64 ph, .string bn, .string bp, .int .i64 bs, .int .i64 bt, .int .i64 bc, .int .i64 0, .int .i64 sa, .int .i64 0]), (r1, 37, #[.int .i64 1, .string ⟨#[]⟩, .string ⟨#[]⟩, .string ⟨#[]⟩, .int .i64 0, .int .i64 0, .int .i64 0, .int .i64 0, .bool false, .slice none 0 0, .slice none 0 0, .int .i64 5, .string bn, .string ⟨#[]⟩, .string ⟨#[]⟩, .int .i64 0, .int .i64 0, .int .i64 0, .int .i64 0, .bool false, .slice none 0 0, .slice none 0 0]), (g2, 37, (NCL nk nn nt nd nc ns ni nm nok ia il ic ja jl jc)), (g1, 23, #[.string bn, .string bp, .int .i64 bs, .int .i64 bt, .int .i64 bc])] wr)) (fun i _ => wl - (intOf i).toNat)
    case atStart => exact ⟨0, 1, 0, by omega, rfl, by omega, by omega, by omega, H4⟩
    case round =>
      clear H4
      obtain ⟨k, ph, sa, hk, rfl, hph, hs1, hs2, HO⟩ := hrel
      by_cases hlt : k < wl
      · go_wp2
        go_loopw [11] (fun j wq => ∃ (q : Nat) (sb : Int), q ≤ 89 ∧ j = .int .i64 q ∧ 0 ≤ sb ∧ sb ≤ 89 * k + q ∧ Hid (Own w [(g4, 29, #[.slice (some ⟨r1, 0, none⟩) 2 2, .bool true, .slice none 0 0]), (g3, 26, #[.int .i64 ph, .string bn, .string bp, .int .i64 bs, .int .i64 bt, .int .i64 bc, .int .i64 (q : Int), .int .i64 sb, .int .i64 0]), (r1, 37, #[.int .i64 1, .string ⟨#[]⟩, .string ⟨#[]⟩, .string ⟨#[]⟩, .int .i64 0, .int .i64 0, .int .i64 0, .int .i64 0, .bool false, .slice none 0 0, .slice none 0 0, .int .i64 5, .string bn, .string ⟨#[]⟩, .string ⟨#[]⟩, .int .i64 0, .int .i64 0, .int .i64 0, .int .i64 0, .bool false, .slice none 0 0, .slice none 0 0]), (g2, 37, (NCL nk nn nt nd nc ns ni nm nok ia il ic ja jl jc)), (g1, 23, #[.string bn, .string bp, .int .i64 bs, .int .i64 bt, .int .i64 bc])] wq)) (fun j _ => 89 - (intOf j).toNat)
        case atStart => exact ⟨0, sa, by omega, rfl, by omega, by omega, HO⟩
        case round =>
          clear HO
          obtain ⟨q, sb, hq, rfl, ht1, ht2, HO⟩ := hrel
          obtain ⟨ad, z, rfl, hadl, hz⟩ := (HINT.out.below HO.out.low) k hlt
          clear hadl
          by_cases hqz : (q : Int) < z
          · by_cases hq8 : q < 89
            · have HZ := Lib.hid hz
              have s0 : wr.cell? ⟨g3, 0, none⟩ = some (.int .i64 ph) := HO.out.cell 1 0 rfl rfl
              have s1 : wr.cell? ⟨g3, 1, none⟩ = some (.string bn) := HO.out.cell 1 1 rfl rfl
              have s2 : wr.cell? ⟨g3, 2, none⟩ = some (.string bp) := HO.out.cell 1 2 rfl rfl
              have s3 : wr.cell? ⟨g3, 3, none⟩ = some (.int .i64 bs) := HO.out.cell 1 3 rfl rfl
              have s4 : wr.cell? ⟨g3, 4, none⟩ = some (.int .i64 bt) := HO.out.cell 1 4 rfl rfl
              have s5 : wr.cell? ⟨g3, 5, none⟩ = some (.int .i64 bc) := HO.out.cell 1 5 rfl rfl
              have s6 : wr.cell? ⟨g3, 6, none⟩ = some (.int .i64 (q : Int)) := HO.out.cell 1 6 rfl rfl
              have s7 : wr.cell? ⟨g3, 7, none⟩ = some (.int .i64 sb) := HO.out.cell 1 7 rfl rfl
              have s8 : wr.cell? ⟨g3, 8, none⟩ = some (.int .i64 0) := HO.out.cell 1 8 rfl rfl
              go_wp2_with fail
              clear s0 s1 s2 s3 s4 s5 s6 s7 s8
              by_cases hs30 : sb + 1 < 30
              · refine (Tick_go1 ph bn bp bs bt bc (q : Int) sb 0 (by omega) (by omega) (by omega) (by omega) (by omega) (by omega) (by omega) (by omega) _).mono ?_
                rintro e W9 ⟨rfl, hn9⟩
                have H9 := Lib.hid (HO.out.call hn9)
                clear hn9
                have s0 : W9.cell? ⟨g3, 0, none⟩ = some (.int .i64 ph) := H9.out.cell 1 0 rfl rfl
                have fs0 : W9.frozen? ⟨g3, 0, none⟩ = false := H9.out.free 1 0 rfl
                have s1 : W9.cell? ⟨g3, 1, none⟩ = some (.string bn) := H9.out.cell 1 1 rfl rfl
                have fs1 : W9.frozen? ⟨g3, 1, none⟩ = false := H9.out.free 1 1 rfl
                have s2 : W9.cell? ⟨g3, 2, none⟩ = some (.string bp) := H9.out.cell 1 2 rfl rfl
                have fs2 : W9.frozen? ⟨g3, 2, none⟩ = false := H9.out.free 1 2 rfl
                have s3 : W9.cell? ⟨g3, 3, none⟩ = some (.int .i64 bs) := H9.out.cell 1 3 rfl rfl
                have fs3 : W9.frozen? ⟨g3, 3, none⟩ = false := H9.out.free 1 3 rfl
                have s4 : W9.cell? ⟨g3, 4, none⟩ = some (.int .i64 bt) := H9.out.cell 1 4 rfl rfl
                have fs4 : W9.frozen? ⟨g3, 4, none⟩ = false := H9.out.free 1 4 rfl
                have s5 : W9.cell? ⟨g3, 5, none⟩ = some (.int .i64 bc) := H9.out.cell 1 5 rfl rfl
                have fs5 : W9.frozen? ⟨g3, 5, none⟩ = false := H9.out.free 1 5 rfl
                have s6 : W9.cell? ⟨g3, 6, none⟩ = some (.int .i64 (q : Int)) := H9.out.cell 1 6 rfl rfl
                have fs6 : W9.frozen? ⟨g3, 6, none⟩ = false := H9.out.free 1 6 rfl
                have s7 : W9.cell? ⟨g3, 7, none⟩ = some (.int .i64 sb) := H9.out.cell 1 7 rfl rfl
                have fs7 : W9.frozen? ⟨g3, 7, none⟩ = false := H9.out.free 1 7 rfl
                have s8 : W9.cell? ⟨g3, 8, none⟩ = some (.int .i64 0) := H9.out.cell 1 8 rfl rfl
                have fs8 : W9.frozen? ⟨g3, 8, none⟩ = false := H9.out.free 1 8 rfl
                have HS : Hid (Own w [(g4, 29, #[.slice (some ⟨r1, 0, none⟩) 2 2, .bool true, .slice none 0 0]), (g3, 26, #[.int .i64 ph, .string bn, .string bp, .int .i64 bs, .int .i64 bt, .int .i64 bc, .int .i64 ((q : Int) + 1), .int .i64 (sb + 1), .int .i64 0]), (r1, 37, #[.int .i64 1, .string ⟨#[]⟩, .string ⟨#[]⟩, .string ⟨#[]⟩, .int .i64 0, .int .i64 0, .int .i64 0, .int .i64 0, .bool false, .slice none 0 0, .slice none 0 0, .int .i64 5, .string bn, .string ⟨#[]⟩, .string ⟨#[]⟩, .int .i64 0, .int .i64 0, .int .i64 0, .int .i64 0, .bool false, .slice none 0 0, .slice none 0 0]), (g2, 37, (NCL nk nn nt nd nc ns ni nm nok ia il ic ja jl jc)), (g1, 23, #[.string bn, .string bp, .int .i64 bs, .int .i64 bt, .int .i64 bc])] (((((((((W9.setCell ⟨g3, 0, none⟩ (.int .i64 ph)).setCell ⟨g3, 1, none⟩ (.string bn)).setCell ⟨g3, 2, none⟩ (.string bp)).setCell ⟨g3, 3, none⟩ (.int .i64 bs)).setCell ⟨g3, 4, none⟩ (.int .i64 bt)).setCell ⟨g3, 5, none⟩ (.int .i64 bc)).setCell ⟨g3, 6, none⟩ (.int .i64 ((q : Int) + 1))).setCell ⟨g3, 7, none⟩ (.int .i64 (sb + 1))).setCell ⟨g3, 8, none⟩ (.int .i64 0))) := Lib.hid (by
                  have k1 := Own.lay H9.out [.int .i64 ph, .string bn, .string bp, .int .i64 bs, .int .i64 bt, .int .i64 bc, .int .i64 ((q : Int) + 1), .int .i64 (sb + 1), .int .i64 0] 0 1 #[.int .i64 ph, .string bn, .string bp, .int .i64 bs, .int .i64 bt, .int .i64 bc, .int .i64 ((q : Int) + 1), .int .i64 (sb + 1), .int .i64 0] rfl (by kernel_rfl)
                  exact k1.cast (by kernel_rfl) (by kernel_rfl))
                clear H9
                go_wp2
                clear s0 fs0 s1 fs1 s2 fs2 s3 fs3 s4 fs4 s5 fs5 s6 fs6 s7 fs7 s8 fs8
                go_roundw
                case rel => exact ⟨q + 1, sb + 1, by omega, by go_num, by omega, by omega, HS⟩
                case measure => simp [intOf]; omega
              · refine (Tick_go2 ph bn bp bs bt bc (q : Int) sb 0 (by omega) (by omega) (by omega) (by omega) (by omega) (by omega) (by omega) (by omega) (by omega) _).mono ?_
                rintro e W9 ⟨rfl, hn9⟩
                have H9 := Lib.hid (HO.out.call hn9)
                clear hn9
                have s0 : W9.cell? ⟨g3, 0, none⟩ = some (.int .i64 ph) := H9.out.cell 1 0 rfl rfl
                have fs0 : W9.frozen? ⟨g3, 0, none⟩ = false := H9.out.free 1 0 rfl
                have s1 : W9.cell? ⟨g3, 1, none⟩ = some (.string bn) := H9.out.cell 1 1 rfl rfl
                have fs1 : W9.frozen? ⟨g3, 1, none⟩ = false := H9.out.free 1 1 rfl
                have s2 : W9.cell? ⟨g3, 2, none⟩ = some (.string bp) := H9.out.cell 1 2 rfl rfl
                have fs2 : W9.frozen? ⟨g3, 2, none⟩ = false := H9.out.free 1 2 rfl
                have s3 : W9.cell? ⟨g3, 3, none⟩ = some (.int .i64 bs) := H9.out.cell 1 3 rfl rfl
                have fs3 : W9.frozen? ⟨g3, 3, none⟩ = false := H9.out.free 1 3 rfl
                have s4 : W9.cell? ⟨g3, 4, none⟩ = some (.int .i64 bt) := H9.out.cell 1 4 rfl rfl
                have fs4 : W9.frozen? ⟨g3, 4, none⟩ = false := H9.out.free 1 4 rfl
                have s5 : W9.cell? ⟨g3, 5, none⟩ = some (.int .i64 bc) := H9.out.cell 1 5 rfl rfl
                have fs5 : W9.frozen? ⟨g3, 5, none⟩ = false := H9.out.free 1 5 rfl
                have s6 : W9.cell? ⟨g3, 6, none⟩ = some (.int .i64 (q : Int)) := H9.out.cell 1 6 rfl rfl
                have fs6 : W9.frozen? ⟨g3, 6, none⟩ = false := H9.out.free 1 6 rfl
                have s7 : W9.cell? ⟨g3, 7, none⟩ = some (.int .i64 sb) := H9.out.cell 1 7 rfl rfl
                have fs7 : W9.frozen? ⟨g3, 7, none⟩ = false := H9.out.free 1 7 rfl
                have s8 : W9.cell? ⟨g3, 8, none⟩ = some (.int .i64 0) := H9.out.cell 1 8 rfl rfl
                have fs8 : W9.frozen? ⟨g3, 8, none⟩ = false := H9.out.free 1 8 rfl
                have HS : Hid (Own w [(g4, 29, #[.slice (some ⟨r1, 0, none⟩) 2 2, .bool true, .slice none 0 0]), (g3, 26, #[.int .i64 ph, .string bn, .string bp, .int .i64 bs, .int .i64 bt, .int .i64 bc, .int .i64 ((q : Int) + 1), .int .i64 (sb + 1), .int .i64 0]), (r1, 37, #[.int .i64 1, .string ⟨#[]⟩, .string ⟨#[]⟩, .string ⟨#[]⟩, .int .i64 0, .int .i64 0, .int .i64 0, .int .i64 0, .bool false, .slice none 0 0, .slice none 0 0, .int .i64 5, .string bn, .string ⟨#[]⟩, .string ⟨#[]⟩, .int .i64 0, .int .i64 0, .int .i64 0, .int .i64 0, .bool false, .slice none 0 0, .slice none 0 0]), (g2, 37, (NCL nk nn nt nd nc ns ni nm nok ia il ic ja jl jc)), (g1, 23, #[.string bn, .string bp, .int .i64 bs, .int .i64 bt, .int .i64 bc])] (((((((((W9.setCell ⟨g3, 0, none⟩ (.int .i64 ph)).setCell ⟨g3, 1, none⟩ (.string bn)).setCell ⟨g3, 2, none⟩ (.string bp)).setCell ⟨g3, 3, none⟩ (.int .i64 bs)).setCell ⟨g3, 4, none⟩ (.int .i64 bt)).setCell ⟨g3, 5, none⟩ (.int .i64 bc)).setCell ⟨g3, 6, none⟩ (.int .i64 ((q : Int) + 1))).setCell ⟨g3, 7, none⟩ (.int .i64 (sb + 1))).setCell ⟨g3, 8, none⟩ (.int .i64 0))) := Lib.hid (by
                  have k1 := Own.lay H9.out [.int .i64 ph, .string bn, .string bp, .int .i64 bs, .int .i64 bt, .int .i64 bc, .int .i64 ((q : Int) + 1), .int .i64 (sb + 1), .int .i64 0] 0 1 #[.int .i64 ph, .string bn, .string bp, .int .i64 bs, .int .i64 bt, .int .i64 bc, .int .i64 ((q : Int) + 1), .int .i64 (sb + 1), .int .i64 0] rfl (by kernel_rfl)
                  exact k1.cast (by kernel_rfl) (by kernel_rfl))
                clear H9
                go_wp2
                clear s0 fs0 s1 fs1 s2 fs2 s3 fs3 s4 fs4 s5 fs5 s6 fs6 s7 fs7 s8 fs8
                go_roundw
                case rel => exact ⟨q + 1, sb + 1, by omega, by go_num, by omega, by omega, HS⟩
                case measure => simp [intOf]; omega
            · have HZ := Lib.hid hz
              have s0 : wr.cell? ⟨g3, 0, none⟩ = some (.int .i64 ph) := HO.out.cell 1 0 rfl rfl
              have s1 : wr.cell? ⟨g3, 1, none⟩ = some (.string bn) := HO.out.cell 1 1 rfl rfl
              have s2 : wr.cell? ⟨g3, 2, none⟩ = some (.string bp) := HO.out.cell 1 2 rfl rfl
              have s3 : wr.cell? ⟨g3, 3, none⟩ = some (.int .i64 bs) := HO.out.cell 1 3 rfl rfl
              have s4 : wr.cell? ⟨g3, 4, none⟩ = some (.int .i64 bt) := HO.out.cell 1 4 rfl rfl
              have s5 : wr.cell? ⟨g3, 5, none⟩ = some (.int .i64 bc) := HO.out.cell 1 5 rfl rfl
              have s6 : wr.cell? ⟨g3, 6, none⟩ = some (.int .i64 (q : Int)) := HO.out.cell 1 6 rfl rfl
              have s7 : wr.cell? ⟨g3, 7, none⟩ = some (.int .i64 sb) := HO.out.cell 1 7 rfl rfl
              have s8 : wr.cell? ⟨g3, 8, none⟩ = some (.int .i64 0) := HO.out.cell 1 8 rfl rfl
              have n0 : wr.cell? ⟨g2, 0, none⟩ = some (.int .i64 nk) := HO.out.cell 3 0 rfl rfl
              have n1 : wr.cell? ⟨g2, 1, none⟩ = some (.string nn) := HO.out.cell 3 1 rfl rfl
              have n2 : wr.cell? ⟨g2, 2, none⟩ = some (.string nt) := HO.out.cell 3 2 rfl rfl
              have n3 : wr.cell? ⟨g2, 3, none⟩ = some (.string nd) := HO.out.cell 3 3 rfl rfl
              have n4 : wr.cell? ⟨g2, 4, none⟩ = some (.int .i64 nc) := HO.out.cell 3 4 rfl rfl
              have n5 : wr.cell? ⟨g2, 5, none⟩ = some (.int .i64 ns) := HO.out.cell 3 5 rfl rfl
              have n6 : wr.cell? ⟨g2, 6, none⟩ = some (.int .i64 ni) := HO.out.cell 3 6 rfl rfl
              have n7 : wr.cell? ⟨g2, 7, none⟩ = some (.int .i64 nm) := HO.out.cell 3 7 rfl rfl
              have n8 : wr.cell? ⟨g2, 8, none⟩ = some (.bool nok) := HO.out.cell 3 8 rfl rfl
              have n9 : wr.cell? ⟨g2, 9, none⟩ = some (.slice ia il ic) := HO.out.cell 3 9 rfl rfl
              have n10 : wr.cell? ⟨g2, 10, none⟩ = some (.slice ja jl jc) := HO.out.cell 3 10 rfl rfl
              go_wp2_with fail
              clear s0 s1 s2 s3 s4 s5 s6 s7 s8 n0 n1 n2 n3 n4 n5 n6 n7 n8 n9 n10
              rcases hph with rfl | rfl
              · by_cases h6 : nk = 6
                · have H6 := Lib.hid h6
                  clear h6
                  refine (Take_gk bn bp bs bt bc (q : Int) sb 0 nk nn nt nd nc ns ni nm nok ia il ic ja jl jc D H6.out HD.out _).mono ?_
                  rintro e W9 ⟨r9, rfl, hn9⟩
                  have H9 := Lib.hid (HO.out.call hn9)
                  clear hn9
                  have H9' := Lib.hid (H9.out.pick [1, 2, 3, 4, 5] (by decide))
                  clear H9
                  have s0 : W9.cell? ⟨g3, 0, none⟩ = some (.int .i64 1) := H9'.out.cell 1 0 rfl rfl
                  have fs0 : W9.frozen? ⟨g3, 0, none⟩ = false := H9'.out.free 1 0 rfl
                  have s1 : W9.cell? ⟨g3, 1, none⟩ = some (.string bn) := H9'.out.cell 1 1 rfl rfl
                  have fs1 : W9.frozen? ⟨g3, 1, none⟩ = false := H9'.out.free 1 1 rfl
                  have s2 : W9.cell? ⟨g3, 2, none⟩ = some (.string bp) := H9'.out.cell 1 2 rfl rfl
                  have fs2 : W9.frozen? ⟨g3, 2, none⟩ = false := H9'.out.free 1 2 rfl
                  have s3 : W9.cell? ⟨g3, 3, none⟩ = some (.int .i64 bs) := H9'.out.cell 1 3 rfl rfl
                  have fs3 : W9.frozen? ⟨g3, 3, none⟩ = false := H9'.out.free 1 3 rfl
                  have s4 : W9.cell? ⟨g3, 4, none⟩ = some (.int .i64 bt) := H9'.out.cell 1 4 rfl rfl
                  have fs4 : W9.frozen? ⟨g3, 4, none⟩ = false := H9'.out.free 1 4 rfl
                  have s5 : W9.cell? ⟨g3, 5, none⟩ = some (.int .i64 bc) := H9'.out.cell 1 5 rfl rfl
                  have fs5 : W9.frozen? ⟨g3, 5, none⟩ = false := H9'.out.free 1 5 rfl
                  have s6 : W9.cell? ⟨g3, 6, none⟩ = some (.int .i64 (q : Int)) := H9'.out.cell 1 6 rfl rfl
                  have fs6 : W9.frozen? ⟨g3, 6, none⟩ = false := H9'.out.free 1 6 rfl
                  have s7 : W9.cell? ⟨g3, 7, none⟩ = some (.int .i64 sb) := H9'.out.cell 1 7 rfl rfl
                  have fs7 : W9.frozen? ⟨g3, 7, none⟩ = false := H9'.out.free 1 7 rfl
                  have s8 : W9.cell? ⟨g3, 8, none⟩ = some (.int .i64 0) := H9'.out.cell 1 8 rfl rfl
                  have fs8 : W9.frozen? ⟨g3, 8, none⟩ = false := H9'.out.free 1 8 rfl
                  have HS : Hid (Own w [(g4, 29, #[.slice (some ⟨r1, 0, none⟩) 2 2, .bool true, .slice none 0 0]), (g3, 26, #[.int .i64 2, .string bn, .string bp, .int .i64 bs, .int .i64 bt, .int .i64 bc, .int .i64 0, .int .i64 0, .int .i64 0]), (r1, 37, #[.int .i64 1, .string ⟨#[]⟩, .string ⟨#[]⟩, .string ⟨#[]⟩, .int .i64 0, .int .i64 0, .int .i64 0, .int .i64 0, .bool false, .slice none 0 0, .slice none 0 0, .int .i64 5, .string bn, .string ⟨#[]⟩, .string ⟨#[]⟩, .int .i64 0, .int .i64 0, .int .i64 0, .int .i64 0, .bool false, .slice none 0 0, .slice none 0 0]), (g2, 37, (NCL nk nn nt nd nc ns ni nm nok ia il ic ja jl jc)), (g1, 23, #[.string bn, .string bp, .int .i64 bs, .int .i64 bt, .int .i64 bc])] (((((((((W9.setCell ⟨g3, 0, none⟩ (.int .i64 2)).setCell ⟨g3, 1, none⟩ (.string bn)).setCell ⟨g3, 2, none⟩ (.string bp)).setCell ⟨g3, 3, none⟩ (.int .i64 bs)).setCell ⟨g3, 4, none⟩ (.int .i64 bt)).setCell ⟨g3, 5, none⟩ (.int .i64 bc)).setCell ⟨g3, 6, none⟩ (.int .i64 0)).setCell ⟨g3, 7, none⟩ (.int .i64 0)).setCell ⟨g3, 8, none⟩ (.int .i64 0))) := Lib.hid (by
                    have k1 := Own.lay H9'.out [.int .i64 2, .string bn, .string bp, .int .i64 bs, .int .i64 bt, .int .i64 bc, .int .i64 0, .int .i64 0, .int .i64 0] 0 1 #[.int .i64 2, .string bn, .string bp, .int .i64 bs, .int .i64 bt, .int .i64 bc, .int .i64 0, .int .i64 0, .int .i64 0] rfl (by kernel_rfl)
                    exact k1.cast (by kernel_rfl) (by kernel_rfl))
                  clear H9'
                  go_wp2
                  clear s0 fs0 s1 fs1 s2 fs2 s3 fs3 s4 fs4 s5 fs5 s6 fs6 s7 fs7 s8 fs8
                  go_roundw
                  case rel => exact ⟨k + 1, 2, 0, by omega, by go_num, by omega, by omega, by omega, HS⟩
                  case measure => simp [intOf]; omega
                · refine (Take_stay1 bn bp bs bt bc (q : Int) sb 0 nk nn nt nd nc ns ni nm nok ia il ic ja jl jc (by omega) (by omega) _).mono ?_
                  rintro e W9 ⟨rfl, hn9⟩
                  have H9 := Lib.hid (HO.out.call hn9)
                  clear hn9
                  have s0 : W9.cell? ⟨g3, 0, none⟩ = some (.int .i64 1) := H9.out.cell 1 0 rfl rfl
                  have fs0 : W9.frozen? ⟨g3, 0, none⟩ = false := H9.out.free 1 0 rfl
                  have s1 : W9.cell? ⟨g3, 1, none⟩ = some (.string bn) := H9.out.cell 1 1 rfl rfl
                  have fs1 : W9.frozen? ⟨g3, 1, none⟩ = false := H9.out.free 1 1 rfl
                  have s2 : W9.cell? ⟨g3, 2, none⟩ = some (.string bp) := H9.out.cell 1 2 rfl rfl
                  have fs2 : W9.frozen? ⟨g3, 2, none⟩ = false := H9.out.free 1 2 rfl
                  have s3 : W9.cell? ⟨g3, 3, none⟩ = some (.int .i64 bs) := H9.out.cell 1 3 rfl rfl
                  have fs3 : W9.frozen? ⟨g3, 3, none⟩ = false := H9.out.free 1 3 rfl
                  have s4 : W9.cell? ⟨g3, 4, none⟩ = some (.int .i64 bt) := H9.out.cell 1 4 rfl rfl
                  have fs4 : W9.frozen? ⟨g3, 4, none⟩ = false := H9.out.free 1 4 rfl
                  have s5 : W9.cell? ⟨g3, 5, none⟩ = some (.int .i64 bc) := H9.out.cell 1 5 rfl rfl
                  have fs5 : W9.frozen? ⟨g3, 5, none⟩ = false := H9.out.free 1 5 rfl
                  have s6 : W9.cell? ⟨g3, 6, none⟩ = some (.int .i64 (q : Int)) := H9.out.cell 1 6 rfl rfl
                  have fs6 : W9.frozen? ⟨g3, 6, none⟩ = false := H9.out.free 1 6 rfl
                  have s7 : W9.cell? ⟨g3, 7, none⟩ = some (.int .i64 sb) := H9.out.cell 1 7 rfl rfl
                  have fs7 : W9.frozen? ⟨g3, 7, none⟩ = false := H9.out.free 1 7 rfl
                  have s8 : W9.cell? ⟨g3, 8, none⟩ = some (.int .i64 0) := H9.out.cell 1 8 rfl rfl
                  have fs8 : W9.frozen? ⟨g3, 8, none⟩ = false := H9.out.free 1 8 rfl
                  have HS : Hid (Own w [(g4, 29, #[.slice (some ⟨r1, 0, none⟩) 2 2, .bool true, .slice none 0 0]), (g3, 26, #[.int .i64 1, .string bn, .string bp, .int .i64 bs, .int .i64 bt, .int .i64 bc, .int .i64 0, .int .i64 sb, .int .i64 0]), (r1, 37, #[.int .i64 1, .string ⟨#[]⟩, .string ⟨#[]⟩, .string ⟨#[]⟩, .int .i64 0, .int .i64 0, .int .i64 0, .int .i64 0, .bool false, .slice none 0 0, .slice none 0 0, .int .i64 5, .string bn, .string ⟨#[]⟩, .string ⟨#[]⟩, .int .i64 0, .int .i64 0, .int .i64 0, .int .i64 0, .bool false, .slice none 0 0, .slice none 0 0]), (g2, 37, (NCL nk nn nt nd nc ns ni nm nok ia il ic ja jl jc)), (g1, 23, #[.string bn, .string bp, .int .i64 bs, .int .i64 bt, .int .i64 bc])] (((((((((W9.setCell ⟨g3, 0, none⟩ (.int .i64 1)).setCell ⟨g3, 1, none⟩ (.string bn)).setCell ⟨g3, 2, none⟩ (.string bp)).setCell ⟨g3, 3, none⟩ (.int .i64 bs)).setCell ⟨g3, 4, none⟩ (.int .i64 bt)).setCell ⟨g3, 5, none⟩ (.int .i64 bc)).setCell ⟨g3, 6, none⟩ (.int .i64 0)).setCell ⟨g3, 7, none⟩ (.int .i64 sb)).setCell ⟨g3, 8, none⟩ (.int .i64 0))) := Lib.hid (by
                    have k1 := Own.lay H9.out [.int .i64 1, .string bn, .string bp, .int .i64 bs, .int .i64 bt, .int .i64 bc, .int .i64 0, .int .i64 sb, .int .i64 0] 0 1 #[.int .i64 1, .string bn, .string bp, .int .i64 bs, .int .i64 bt, .int .i64 bc, .int .i64 0, .int .i64 sb, .int .i64 0] rfl (by kernel_rfl)
                    exact k1.cast (by kernel_rfl) (by kernel_rfl))
                  clear H9
                  go_wp2
                  clear s0 fs0 s1 fs1 s2 fs2 s3 fs3 s4 fs4 s5 fs5 s6 fs6 s7 fs7 s8 fs8
                  go_roundw
                  case rel => exact ⟨k + 1, 1, sb, by omega, by go_num, by omega, by omega, by omega, HS⟩
                  case measure => simp [intOf]; omega
              · refine (Take_stay2 bn bp bs bt bc (q : Int) sb 0 nk nn nt nd nc ns ni nm nok ia il ic ja jl jc (by omega) (by omega) _).mono ?_
                rintro e W9 ⟨rfl, hn9⟩
                have H9 := Lib.hid (HO.out.call hn9)
                clear hn9
                have s0 : W9.cell? ⟨g3, 0, none⟩ = some (.int .i64 2) := H9.out.cell 1 0 rfl rfl
                have fs0 : W9.frozen? ⟨g3, 0, none⟩ = false := H9.out.free 1 0 rfl
                have s1 : W9.cell? ⟨g3, 1, none⟩ = some (.string bn) := H9.out.cell 1 1 rfl rfl
                have fs1 : W9.frozen? ⟨g3, 1, none⟩ = false := H9.out.free 1 1 rfl
                have s2 : W9.cell? ⟨g3, 2, none⟩ = some (.string bp) := H9.out.cell 1 2 rfl rfl
                have fs2 : W9.frozen? ⟨g3, 2, none⟩ = false := H9.out.free 1 2 rfl
                have s3 : W9.cell? ⟨g3, 3, none⟩ = some (.int .i64 bs) := H9.out.cell 1 3 rfl rfl
                have fs3 : W9.frozen? ⟨g3, 3, none⟩ = false := H9.out.free 1 3 rfl
                have s4 : W9.cell? ⟨g3, 4, none⟩ = some (.int .i64 bt) := H9.out.cell 1 4 rfl rfl
                have fs4 : W9.frozen? ⟨g3, 4, none⟩ = false := H9.out.free 1 4 rfl
                have s5 : W9.cell? ⟨g3, 5, none⟩ = some (.int .i64 bc) := H9.out.cell 1 5 rfl rfl
                have fs5 : W9.frozen? ⟨g3, 5, none⟩ = false := H9.out.free 1 5 rfl
                have s6 : W9.cell? ⟨g3, 6, none⟩ = some (.int .i64 (q : Int)) := H9.out.cell 1 6 rfl rfl
                have fs6 : W9.frozen? ⟨g3, 6, none⟩ = false := H9.out.free 1 6 rfl
                have s7 : W9.cell? ⟨g3, 7, none⟩ = some (.int .i64 sb) := H9.out.cell 1 7 rfl rfl
                have fs7 : W9.frozen? ⟨g3, 7, none⟩ = false := H9.out.free 1 7 rfl
                have s8 : W9.cell? ⟨g3, 8, none⟩ = some (.int .i64 0) := H9.out.cell 1 8 rfl rfl
                have fs8 : W9.frozen? ⟨g3, 8, none⟩ = false := H9.out.free 1 8 rfl
                have HS : Hid (Own w [(g4, 29, #[.slice (some ⟨r1, 0, none⟩) 2 2, .bool true, .slice none 0 0]), (g3, 26, #[.int .i64 2, .string bn, .string bp, .int .i64 bs, .int .i64 bt, .int .i64 bc, .int .i64 0, .int .i64 sb, .int .i64 0]), (r1, 37, #[.int .i64 1, .string ⟨#[]⟩, .string ⟨#[]⟩, .string ⟨#[]⟩, .int .i64 0, .int .i64 0, .int .i64 0, .int .i64 0, .bool false, .slice none 0 0, .slice none 0 0, .int .i64 5, .string bn, .string ⟨#[]⟩, .string ⟨#[]⟩, .int .i64 0, .int .i64 0, .int .i64 0, .int .i64 0, .bool false, .slice none 0 0, .slice none 0 0]), (g2, 37, (NCL nk nn nt nd nc ns ni nm nok ia il ic ja jl jc)), (g1, 23, #[.string bn, .string bp, .int .i64 bs, .int .i64 bt, .int .i64 bc])] (((((((((W9.setCell ⟨g3, 0, none⟩ (.int .i64 2)).setCell ⟨g3, 1, none⟩ (.string bn)).setCell ⟨g3, 2, none⟩ (.string bp)).setCell ⟨g3, 3, none⟩ (.int .i64 bs)).setCell ⟨g3, 4, none⟩ (.int .i64 bt)).setCell ⟨g3, 5, none⟩ (.int .i64 bc)).setCell ⟨g3, 6, none⟩ (.int .i64 0)).setCell ⟨g3, 7, none⟩ (.int .i64 sb)).setCell ⟨g3, 8, none⟩ (.int .i64 0))) := Lib.hid (by
                  have k1 := Own.lay H9.out [.int .i64 2, .string bn, .string bp, .int .i64 bs, .int .i64 bt, .int .i64 bc, .int .i64 0, .int .i64 sb, .int .i64 0] 0 1 #[.int .i64 2, .string bn, .string bp, .int .i64 bs, .int .i64 bt, .int .i64 bc, .int .i64 0, .int .i64 sb, .int .i64 0] rfl (by kernel_rfl)
                  exact k1.cast (by kernel_rfl) (by kernel_rfl))
                clear H9
                go_wp2
                clear s0 fs0 s1 fs1 s2 fs2 s3 fs3 s4 fs4 s5 fs5 s6 fs6 s7 fs7 s8 fs8
                go_roundw
                case rel => exact ⟨k + 1, 2, sb, by omega, by go_num, by omega, by omega, by omega, HS⟩
                case measure => simp [intOf]; omega
          · have HZ := Lib.hid hz
            have s0 : wr.cell? ⟨g3, 0, none⟩ = some (.int .i64 ph) := HO.out.cell 1 0 rfl rfl
            have s1 : wr.cell? ⟨g3, 1, none⟩ = some (.string bn) := HO.out.cell 1 1 rfl rfl
            have s2 : wr.cell? ⟨g3, 2, none⟩ = some (.string bp) := HO.out.cell 1 2 rfl rfl
            have s3 : wr.cell? ⟨g3, 3, none⟩ = some (.int .i64 bs) := HO.out.cell 1 3 rfl rfl
            have s4 : wr.cell? ⟨g3, 4, none⟩ = some (.int .i64 bt) := HO.out.cell 1 4 rfl rfl
            have s5 : wr.cell? ⟨g3, 5, none⟩ = some (.int .i64 bc) := HO.out.cell 1 5 rfl rfl
            have s6 : wr.cell? ⟨g3, 6, none⟩ = some (.int .i64 (q : Int)) := HO.out.cell 1 6 rfl rfl
            have s7 : wr.cell? ⟨g3, 7, none⟩ = some (.int .i64 sb) := HO.out.cell 1 7 rfl rfl
            have s8 : wr.cell? ⟨g3, 8, none⟩ = some (.int .i64 0) := HO.out.cell 1 8 rfl rfl
            have n0 : wr.cell? ⟨g2, 0, none⟩ = some (.int .i64 nk) := HO.out.cell 3 0 rfl rfl
            have n1 : wr.cell? ⟨g2, 1, none⟩ = some (.string nn) := HO.out.cell 3 1 rfl rfl
            have n2 : wr.cell? ⟨g2, 2, none⟩ = some (.string nt) := HO.out.cell 3 2 rfl rfl
            have n3 : wr.cell? ⟨g2, 3, none⟩ = some (.string nd) := HO.out.cell 3 3 rfl rfl
            have n4 : wr.cell? ⟨g2, 4, none⟩ = some (.int .i64 nc) := HO.out.cell 3 4 rfl rfl
            have n5 : wr.cell? ⟨g2, 5, none⟩ = some (.int .i64 ns) := HO.out.cell 3 5 rfl rfl
            have n6 : wr.cell? ⟨g2, 6, none⟩ = some (.int .i64 ni) := HO.out.cell 3 6 rfl rfl
            have n7 : wr.cell? ⟨g2, 7, none⟩ = some (.int .i64 nm) := HO.out.cell 3 7 rfl rfl
            have n8 : wr.cell? ⟨g2, 8, none⟩ = some (.bool nok) := HO.out.cell 3 8 rfl rfl
            have n9 : wr.cell? ⟨g2, 9, none⟩ = some (.slice ia il ic) := HO.out.cell 3 9 rfl rfl
            have n10 : wr.cell? ⟨g2, 10, none⟩ = some (.slice ja jl jc) := HO.out.cell 3 10 rfl rfl
            go_wp2_with fail
            clear s0 s1 s2 s3 s4 s5 s6 s7 s8 n0 n1 n2 n3 n4 n5 n6 n7 n8 n9 n10
            rcases hph with rfl | rfl
            · by_cases h6 : nk = 6
              · have H6 := Lib.hid h6
                clear h6
                refine (Take_gk bn bp bs bt bc (q : Int) sb 0 nk nn nt nd nc ns ni nm nok ia il ic ja jl jc D H6.out HD.out _).mono ?_
                rintro e W9 ⟨r9, rfl, hn9⟩
                have H9 := Lib.hid (HO.out.call hn9)
                clear hn9
                have H9' := Lib.hid (H9.out.pick [1, 2, 3, 4, 5] (by decide))
                clear H9
                have s0 : W9.cell? ⟨g3, 0, none⟩ = some (.int .i64 1) := H9'.out.cell 1 0 rfl rfl
                have fs0 : W9.frozen? ⟨g3, 0, none⟩ = false := H9'.out.free 1 0 rfl
                have s1 : W9.cell? ⟨g3, 1, none⟩ = some (.string bn) := H9'.out.cell 1 1 rfl rfl
                have fs1 : W9.frozen? ⟨g3, 1, none⟩ = false := H9'.out.free 1 1 rfl
                have s2 : W9.cell? ⟨g3, 2, none⟩ = some (.string bp) := H9'.out.cell 1 2 rfl rfl
                have fs2 : W9.frozen? ⟨g3, 2, none⟩ = false := H9'.out.free 1 2 rfl
                have s3 : W9.cell? ⟨g3, 3, none⟩ = some (.int .i64 bs) := H9'.out.cell 1 3 rfl rfl
                have fs3 : W9.frozen? ⟨g3, 3, none⟩ = false := H9'.out.free 1 3 rfl
                have s4 : W9.cell? ⟨g3, 4, none⟩ = some (.int .i64 bt) := H9'.out.cell 1 4 rfl rfl
                have fs4 : W9.frozen? ⟨g3, 4, none⟩ = false := H9'.out.free 1 4 rfl
                have s5 : W9.cell? ⟨g3, 5, none⟩ = some (.int .i64 bc) := H9'.out.cell 1 5 rfl rfl
                have fs5 : W9.frozen? ⟨g3, 5, none⟩ = false := H9'.out.free 1 5 rfl
                have s6 : W9.cell? ⟨g3, 6, none⟩ = some (.int .i64 (q : Int)) := H9'.out.cell 1 6 rfl rfl
                have fs6 : W9.frozen? ⟨g3, 6, none⟩ = false := H9'.out.free 1 6 rfl
                have s7 : W9.cell? ⟨g3, 7, none⟩ = some (.int .i64 sb) := H9'.out.cell 1 7 rfl rfl
                have fs7 : W9.frozen? ⟨g3, 7, none⟩ = false := H9'.out.free 1 7 rfl
                have s8 : W9.cell? ⟨g3, 8, none⟩ = some (.int .i64 0) := H9'.out.cell 1 8 rfl rfl
                have fs8 : W9.frozen? ⟨g3, 8, none⟩ = false := H9'.out.free 1 8 rfl
                have HS : Hid (Own w [(g4, 29, #[.slice (some ⟨r1, 0, none⟩) 2 2, .bool true, .slice none 0 0]), (g3, 26, #[.int .i64 2, .string bn, .string bp, .int .i64 bs, .int .i64 bt, .int .i64 bc, .int .i64 0, .int .i64 0, .int .i64 0]), (r1, 37, #[.int .i64 1, .string ⟨#[]⟩, .string ⟨#[]⟩, .string ⟨#[]⟩, .int .i64 0, .int .i64 0, .int .i64 0, .int .i64 0, .bool false, .slice none 0 0, .slice none 0 0, .int .i64 5, .string bn, .string ⟨#[]⟩, .string ⟨#[]⟩, .int .i64 0, .int .i64 0, .int .i64 0, .int .i64 0, .bool false, .slice none 0 0, .slice none 0 0]), (g2, 37, (NCL nk nn nt nd nc ns ni nm nok ia il ic ja jl jc)), (g1, 23, #[.string bn, .string bp, .int .i64 bs, .int .i64 bt, .int .i64 bc])] (((((((((W9.setCell ⟨g3, 0, none⟩ (.int .i64 2)).setCell ⟨g3, 1, none⟩ (.string bn)).setCell ⟨g3, 2, none⟩ (.string bp)).setCell ⟨g3, 3, none⟩ (.int .i64 bs)).setCell ⟨g3, 4, none⟩ (.int .i64 bt)).setCell ⟨g3, 5, none⟩ (.int .i64 bc)).setCell ⟨g3, 6, none⟩ (.int .i64 0)).setCell ⟨g3, 7, none⟩ (.int .i64 0)).setCell ⟨g3, 8, none⟩ (.int .i64 0))) := Lib.hid (by
                  have k1 := Own.lay H9'.out [.int .i64 2, .string bn, .string bp, .int .i64 bs, .int .i64 bt, .int .i64 bc, .int .i64 0, .int .i64 0, .int .i64 0] 0 1 #[.int .i64 2, .string bn, .string bp, .int .i64 bs, .int .i64 bt, .int .i64 bc, .int .i64 0, .int .i64 0, .int .i64 0] rfl (by kernel_rfl)
                  exact k1.cast (by kernel_rfl) (by kernel_rfl))
                clear H9'
                go_wp2
                clear s0 fs0 s1 fs1 s2 fs2 s3 fs3 s4 fs4 s5 fs5 s6 fs6 s7 fs7 s8 fs8
                go_roundw
                case rel => exact ⟨k + 1, 2, 0, by omega, by go_num, by omega, by omega, by omega, HS⟩
                case measure => simp [intOf]; omega
              · refine (Take_stay1 bn bp bs bt bc (q : Int) sb 0 nk nn nt nd nc ns ni nm nok ia il ic ja jl jc (by omega) (by omega) _).mono ?_
                rintro e W9 ⟨rfl, hn9⟩
                have H9 := Lib.hid (HO.out.call hn9)
                clear hn9
                have s0 : W9.cell? ⟨g3, 0, none⟩ = some (.int .i64 1) := H9.out.cell 1 0 rfl rfl
                have fs0 : W9.frozen? ⟨g3, 0, none⟩ = false := H9.out.free 1 0 rfl
                have s1 : W9.cell? ⟨g3, 1, none⟩ = some (.string bn) := H9.out.cell 1 1 rfl rfl
                have fs1 : W9.frozen? ⟨g3, 1, none⟩ = false := H9.out.free 1 1 rfl
                have s2 : W9.cell? ⟨g3, 2, none⟩ = some (.string bp) := H9.out.cell 1 2 rfl rfl
                have fs2 : W9.frozen? ⟨g3, 2, none⟩ = false := H9.out.free 1 2 rfl
                have s3 : W9.cell? ⟨g3, 3, none⟩ = some (.int .i64 bs) := H9.out.cell 1 3 rfl rfl
                have fs3 : W9.frozen? ⟨g3, 3, none⟩ = false := H9.out.free 1 3 rfl
                have s4 : W9.cell? ⟨g3, 4, none⟩ = some (.int .i64 bt) := H9.out.cell 1 4 rfl rfl
                have fs4 : W9.frozen? ⟨g3, 4, none⟩ = false := H9.out.free 1 4 rfl
                have s5 : W9.cell? ⟨g3, 5, none⟩ = some (.int .i64 bc) := H9.out.cell 1 5 rfl rfl
                have fs5 : W9.frozen? ⟨g3, 5, none⟩ = false := H9.out.free 1 5 rfl
                have s6 : W9.cell? ⟨g3, 6, none⟩ = some (.int .i64 (q : Int)) := H9.out.cell 1 6 rfl rfl
                have fs6 : W9.frozen? ⟨g3, 6, none⟩ = false := H9.out.free 1 6 rfl
                have s7 : W9.cell? ⟨g3, 7, none⟩ = some (.int .i64 sb) := H9.out.cell 1 7 rfl rfl
                have fs7 : W9.frozen? ⟨g3, 7, none⟩ = false := H9.out.free 1 7 rfl
                have s8 : W9.cell? ⟨g3, 8, none⟩ = some (.int .i64 0) := H9.out.cell 1 8 rfl rfl
                have fs8 : W9.frozen? ⟨g3, 8, none⟩ = false := H9.out.free 1 8 rfl
                have HS : Hid (Own w [(g4, 29, #[.slice (some ⟨r1, 0, none⟩) 2 2, .bool true, .slice none 0 0]), (g3, 26, #[.int .i64 1, .string bn, .string bp, .int .i64 bs, .int .i64 bt, .int .i64 bc, .int .i64 0, .int .i64 sb, .int .i64 0]), (r1, 37, #[.int .i64 1, .string ⟨#[]⟩, .string ⟨#[]⟩, .string ⟨#[]⟩, .int .i64 0, .int .i64 0, .int .i64 0, .int .i64 0, .bool false, .slice none 0 0, .slice none 0 0, .int .i64 5, .string bn, .string ⟨#[]⟩, .string ⟨#[]⟩, .int .i64 0, .int .i64 0, .int .i64 0, .int .i64 0, .bool false, .slice none 0 0, .slice none 0 0]), (g2, 37, (NCL nk nn nt nd nc ns ni nm nok ia il ic ja jl jc)), (g1, 23, #[.string bn, .string bp, .int .i64 bs, .int .i64 bt, .int .i64 bc])] (((((((((W9.setCell ⟨g3, 0, none⟩ (.int .i64 1)).setCell ⟨g3, 1, none⟩ (.string bn)).setCell ⟨g3, 2, none⟩ (.string bp)).setCell ⟨g3, 3, none⟩ (.int .i64 bs)).setCell ⟨g3, 4, none⟩ (.int .i64 bt)).setCell ⟨g3, 5, none⟩ (.int .i64 bc)).setCell ⟨g3, 6, none⟩ (.int .i64 0)).setCell ⟨g3, 7, none⟩ (.int .i64 sb)).setCell ⟨g3, 8, none⟩ (.int .i64 0))) := Lib.hid (by
                  have k1 := Own.lay H9.out [.int .i64 1, .string bn, .string bp, .int .i64 bs, .int .i64 bt, .int .i64 bc, .int .i64 0, .int .i64 sb, .int .i64 0] 0 1 #[.int .i64 1, .string bn, .string bp, .int .i64 bs, .int .i64 bt, .int .i64 bc, .int .i64 0, .int .i64 sb, .int .i64 0] rfl (by kernel_rfl)
                  exact k1.cast (by kernel_rfl) (by kernel_rfl))
                clear H9
                go_wp2
                clear s0 fs0 s1 fs1 s2 fs2 s3 fs3 s4 fs4 s5 fs5 s6 fs6 s7 fs7 s8 fs8
                go_roundw
                case rel => exact ⟨k + 1, 1, sb, by omega, by go_num, by omega, by omega, by omega, HS⟩
                case measure => simp [intOf]; omega
            · refine (Take_stay2 bn bp bs bt bc (q : Int) sb 0 nk nn nt nd nc ns ni nm nok ia il ic ja jl jc (by omega) (by omega) _).mono ?_
              rintro e W9 ⟨rfl, hn9⟩
              have H9 := Lib.hid (HO.out.call hn9)
              clear hn9
              have s0 : W9.cell? ⟨g3, 0, none⟩ = some (.int .i64 2) := H9.out.cell 1 0 rfl rfl
              have fs0 : W9.frozen? ⟨g3, 0, none⟩ = false := H9.out.free 1 0 rfl
              have s1 : W9.cell? ⟨g3, 1, none⟩ = some (.string bn) := H9.out.cell 1 1 rfl rfl
              have fs1 : W9.frozen? ⟨g3, 1, none⟩ = false := H9.out.free 1 1 rfl
              have s2 : W9.cell? ⟨g3, 2, none⟩ = some (.string bp) := H9.out.cell 1 2 rfl rfl
              have fs2 : W9.frozen? ⟨g3, 2, none⟩ = false := H9.out.free 1 2 rfl
              have s3 : W9.cell? ⟨g3, 3, none⟩ = some (.int .i64 bs) := H9.out.cell 1 3 rfl rfl
              have fs3 : W9.frozen? ⟨g3, 3, none⟩ = false := H9.out.free 1 3 rfl
              have s4 : W9.cell? ⟨g3, 4, none⟩ = some (.int .i64 bt) := H9.out.cell 1 4 rfl rfl
              have fs4 : W9.frozen? ⟨g3, 4, none⟩ = false := H9.out.free 1 4 rfl
              have s5 : W9.cell? ⟨g3, 5, none⟩ = some (.int .i64 bc) := H9.out.cell 1 5 rfl rfl
              have fs5 : W9.frozen? ⟨g3, 5, none⟩ = false := H9.out.free 1 5 rfl
              have s6 : W9.cell? ⟨g3, 6, none⟩ = some (.int .i64 (q : Int)) := H9.out.cell 1 6 rfl rfl
              have fs6 : W9.frozen? ⟨g3, 6, none⟩ = false := H9.out.free 1 6 rfl
              have s7 : W9.cell? ⟨g3, 7, none⟩ = some (.int .i64 sb) := H9.out.cell 1 7 rfl rfl
              have fs7 : W9.frozen? ⟨g3, 7, none⟩ = false := H9.out.free 1 7 rfl
              have s8 : W9.cell? ⟨g3, 8, none⟩ = some (.int .i64 0) := H9.out.cell 1 8 rfl rfl
              have fs8 : W9.frozen? ⟨g3, 8, none⟩ = false := H9.out.free 1 8 rfl
              have HS : Hid (Own w [(g4, 29, #[.slice (some ⟨r1, 0, none⟩) 2 2, .bool true, .slice none 0 0]), (g3, 26, #[.int .i64 2, .string bn, .string bp, .int .i64 bs, .int .i64 bt, .int .i64 bc, .int .i64 0, .int .i64 sb, .int .i64 0]), (r1, 37, #[.int .i64 1, .string ⟨#[]⟩, .string ⟨#[]⟩, .string ⟨#[]⟩, .int .i64 0, .int .i64 0, .int .i64 0, .int .i64 0, .bool false, .slice none 0 0, .slice none 0 0, .int .i64 5, .string bn, .string ⟨#[]⟩, .string ⟨#[]⟩, .int .i64 0, .int .i64 0, .int .i64 0, .int .i64 0, .bool false, .slice none 0 0, .slice none 0 0]), (g2, 37, (NCL nk nn nt nd nc ns ni nm nok ia il ic ja jl jc)), (g1, 23, #[.string bn, .string bp, .int .i64 bs, .int .i64 bt, .int .i64 bc])] (((((((((W9.setCell ⟨g3, 0, none⟩ (.int .i64 2)).setCell ⟨g3, 1, none⟩ (.string bn)).setCell ⟨g3, 2, none⟩ (.string bp)).setCell ⟨g3, 3, none⟩ (.int .i64 bs)).setCell ⟨g3, 4, none⟩ (.int .i64 bt)).setCell ⟨g3, 5, none⟩ (.int .i64 bc)).setCell ⟨g3, 6, none⟩ (.int .i64 0)).setCell ⟨g3, 7, none⟩ (.int .i64 sb)).setCell ⟨g3, 8, none⟩ (.int .i64 0))) := Lib.hid (by
                have k1 := Own.lay H9.out [.int .i64 2, .string bn, .string bp, .int .i64 bs, .int .i64 bt, .int .i64 bc, .int .i64 0, .int .i64 sb, .int .i64 0] 0 1 #[.int .i64 2, .string bn, .string bp, .int .i64 bs, .int .i64 bt, .int .i64 bc, .int .i64 0, .int .i64 sb, .int .i64 0] rfl (by kernel_rfl)
                exact k1.cast (by kernel_rfl) (by kernel_rfl))
              clear H9
              go_wp2
              clear s0 fs0 s1 fs1 s2 fs2 s3 fs3 s4 fs4 s5 fs5 s6 fs6 s7 fs7 s8 fs8
              go_roundw
              case rel => exact ⟨k + 1, 2, sb, by omega, by go_num, by omega, by omega, by omega, HS⟩
              case measure => simp [intOf]; omega
      · have s0 : wr.cell? ⟨g3, 0, none⟩ = some (.int .i64 ph) := HO.out.cell 1 0 rfl rfl
        have hp6 : ¬ ph = 6 := by omega
        have e6 : (ph == 6) = false := beq_eq_false_iff_ne.mpr hp6
        go_wp2
        try rw [e6]
        clear s0 hp6 e6
        go_loopw [12] (fun j wq => ∃ (q : Nat) (pp hh sb cc : Int), q ≤ 90 ∧ j = .int .i64 q ∧ ((q < 90 ∧ (pp = 1 ∨ pp = 2) ∧ hh = q ∧ 0 ≤ sb ∧ sb ≤ 89 * k + q ∧ cc = 0) ∨ (q = 90 ∧ pp = 6 ∧ cc = 200)) ∧ Hid (Own w [(g4, 29, #[.slice (some ⟨r1, 0, none⟩) 2 2, .bool true, .slice none 0 0]), (g3, 26, #[.int .i64 pp, .string bn, .string bp, .int .i64 bs, .int .i64 bt, .int .i64 bc, .int .i64 hh, .int .i64 sb, .int .i64 cc]), (r1, 37, #[.int .i64 1, .string ⟨#[]⟩, .string ⟨#[]⟩, .string ⟨#[]⟩, .int .i64 0, .int .i64 0, .int .i64 0, .int .i64 0, .bool false, .slice none 0 0, .slice none 0 0, .int .i64 5, .string bn, .string ⟨#[]⟩, .string ⟨#[]⟩, .int .i64 0, .int .i64 0, .int .i64 0, .int .i64 0, .bool false, .slice none 0 0, .slice none 0 0]), (g2, 37, (NCL nk nn nt nd nc ns ni nm nok ia il ic ja jl jc)), (g1, 23, #[.string bn, .string bp, .int .i64 bs, .int .i64 bt, .int .i64 bc])] wq)) (fun j _ => 90 - (intOf j).toNat)
        case atStart => exact ⟨0, ph, 0, sa, 0, by omega, rfl, by omega, HO⟩
        case round =>
          clear HO
          obtain ⟨q, pp, hh, sb, cc, hq, rfl, hor, HO⟩ := hrel
          by_cases hq9 : q < 90
          · obtain ⟨hpp, rfl, ht1, ht2, rfl⟩ : (pp = 1 ∨ pp = 2) ∧ hh = q ∧ 0 ≤ sb ∧ sb ≤ 89 * k + q ∧ cc = 0 := by omega
            clear hor
            have hp6' : ¬ pp = 6 := by omega
            by_cases hq8 : q < 89
            · skip
              have s0 : wr.cell? ⟨g3, 0, none⟩ = some (.int .i64 pp) := HO.out.cell 1 0 rfl rfl
              have s1 : wr.cell? ⟨g3, 1, none⟩ = some (.string bn) := HO.out.cell 1 1 rfl rfl
              have s2 : wr.cell? ⟨g3, 2, none⟩ = some (.string bp) := HO.out.cell 1 2 rfl rfl
              have s3 : wr.cell? ⟨g3, 3, none⟩ = some (.int .i64 bs) := HO.out.cell 1 3 rfl rfl
              have s4 : wr.cell? ⟨g3, 4, none⟩ = some (.int .i64 bt) := HO.out.cell 1 4 rfl rfl
              have s5 : wr.cell? ⟨g3, 5, none⟩ = some (.int .i64 bc) := HO.out.cell 1 5 rfl rfl
              have s6 : wr.cell? ⟨g3, 6, none⟩ = some (.int .i64 (q : Int)) := HO.out.cell 1 6 rfl rfl
              have s7 : wr.cell? ⟨g3, 7, none⟩ = some (.int .i64 sb) := HO.out.cell 1 7 rfl rfl
              have s8 : wr.cell? ⟨g3, 8, none⟩ = some (.int .i64 0) := HO.out.cell 1 8 rfl rfl
              go_wp2_with fail
              clear s0 s1 s2 s3 s4 s5 s6 s7 s8
              by_cases hs30 : sb + 1 < 30
              · refine (Tick_go1 pp bn bp bs bt bc (q : Int) sb 0 (by omega) (by omega) (by omega) (by omega) (by omega) (by omega) (by omega) (by omega) _).mono ?_
                rintro e W9 ⟨rfl, hn9⟩
                have H9 := Lib.hid (HO.out.call hn9)
                clear hn9
                have s0 : W9.cell? ⟨g3, 0, none⟩ = some (.int .i64 pp) := H9.out.cell 1 0 rfl rfl
                have fs0 : W9.frozen? ⟨g3, 0, none⟩ = false := H9.out.free 1 0 rfl
                have s1 : W9.cell? ⟨g3, 1, none⟩ = some (.string bn) := H9.out.cell 1 1 rfl rfl
                have fs1 : W9.frozen? ⟨g3, 1, none⟩ = false := H9.out.free 1 1 rfl
                have s2 : W9.cell? ⟨g3, 2, none⟩ = some (.string bp) := H9.out.cell 1 2 rfl rfl
                have fs2 : W9.frozen? ⟨g3, 2, none⟩ = false := H9.out.free 1 2 rfl
                have s3 : W9.cell? ⟨g3, 3, none⟩ = some (.int .i64 bs) := H9.out.cell 1 3 rfl rfl
                have fs3 : W9.frozen? ⟨g3, 3, none⟩ = false := H9.out.free 1 3 rfl
                have s4 : W9.cell? ⟨g3, 4, none⟩ = some (.int .i64 bt) := H9.out.cell 1 4 rfl rfl
                have fs4 : W9.frozen? ⟨g3, 4, none⟩ = false := H9.out.free 1 4 rfl
                have s5 : W9.cell? ⟨g3, 5, none⟩ = some (.int .i64 bc) := H9.out.cell 1 5 rfl rfl
                have fs5 : W9.frozen? ⟨g3, 5, none⟩ = false := H9.out.free 1 5 rfl
                have s6 : W9.cell? ⟨g3, 6, none⟩ = some (.int .i64 (q : Int)) := H9.out.cell 1 6 rfl rfl
                have fs6 : W9.frozen? ⟨g3, 6, none⟩ = false := H9.out.free 1 6 rfl
                have s7 : W9.cell? ⟨g3, 7, none⟩ = some (.int .i64 sb) := H9.out.cell 1 7 rfl rfl
                have fs7 : W9.frozen? ⟨g3, 7, none⟩ = false := H9.out.free 1 7 rfl
                have s8 : W9.cell? ⟨g3, 8, none⟩ = some (.int .i64 0) := H9.out.cell 1 8 rfl rfl
                have fs8 : W9.frozen? ⟨g3, 8, none⟩ = false := H9.out.free 1 8 rfl
                have HS : Hid (Own w [(g4, 29, #[.slice (some ⟨r1, 0, none⟩) 2 2, .bool true, .slice none 0 0]), (g3, 26, #[.int .i64 pp, .string bn, .string bp, .int .i64 bs, .int .i64 bt, .int .i64 bc, .int .i64 ((q : Int) + 1), .int .i64 (sb + 1), .int .i64 0]), (r1, 37, #[.int .i64 1, .string ⟨#[]⟩, .string ⟨#[]⟩, .string ⟨#[]⟩, .int .i64 0, .int .i64 0, .int .i64 0, .int .i64 0, .bool false, .slice none 0 0, .slice none 0 0, .int .i64 5, .string bn, .string ⟨#[]⟩, .string ⟨#[]⟩, .int .i64 0, .int .i64 0, .int .i64 0, .int .i64 0, .bool false, .slice none 0 0, .slice none 0 0]), (g2, 37, (NCL nk nn nt nd nc ns ni nm nok ia il ic ja jl jc)), (g1, 23, #[.string bn, .string bp, .int .i64 bs, .int .i64 bt, .int .i64 bc])] (((((((((W9.setCell ⟨g3, 0, none⟩ (.int .i64 pp)).setCell ⟨g3, 1, none⟩ (.string bn)).setCell ⟨g3, 2, none⟩ (.string bp)).setCell ⟨g3, 3, none⟩ (.int .i64 bs)).setCell ⟨g3, 4, none⟩ (.int .i64 bt)).setCell ⟨g3, 5, none⟩ (.int .i64 bc)).setCell ⟨g3, 6, none⟩ (.int .i64 ((q : Int) + 1))).setCell ⟨g3, 7, none⟩ (.int .i64 (sb + 1))).setCell ⟨g3, 8, none⟩ (.int .i64 0))) := Lib.hid (by
                  have k1 := Own.lay H9.out [.int .i64 pp, .string bn, .string bp, .int .i64 bs, .int .i64 bt, .int .i64 bc, .int .i64 ((q : Int) + 1), .int .i64 (sb + 1), .int .i64 0] 0 1 #[.int .i64 pp, .string bn, .string bp, .int .i64 bs, .int .i64 bt, .int .i64 bc, .int .i64 ((q : Int) + 1), .int .i64 (sb + 1), .int .i64 0] rfl (by kernel_rfl)
                  exact k1.cast (by kernel_rfl) (by kernel_rfl))
                clear H9
                go_wp2
                clear s0 fs0 s1 fs1 s2 fs2 s3 fs3 s4 fs4 s5 fs5 s6 fs6 s7 fs7 s8 fs8
                go_roundw
                case rel => exact ⟨q + 1, pp, (q : Int) + 1, sb + 1, 0, by omega, by go_num, by omega, HS⟩
                case measure => simp [intOf]; omega
              · refine (Tick_go2 pp bn bp bs bt bc (q : Int) sb 0 (by omega) (by omega) (by omega) (by omega) (by omega) (by omega) (by omega) (by omega) (by omega) _).mono ?_
                rintro e W9 ⟨rfl, hn9⟩
                have H9 := Lib.hid (HO.out.call hn9)
                clear hn9
                have s0 : W9.cell? ⟨g3, 0, none⟩ = some (.int .i64 pp) := H9.out.cell 1 0 rfl rfl
                have fs0 : W9.frozen? ⟨g3, 0, none⟩ = false := H9.out.free 1 0 rfl
                have s1 : W9.cell? ⟨g3, 1, none⟩ = some (.string bn) := H9.out.cell 1 1 rfl rfl
                have fs1 : W9.frozen? ⟨g3, 1, none⟩ = false := H9.out.free 1 1 rfl
                have s2 : W9.cell? ⟨g3, 2, none⟩ = some (.string bp) := H9.out.cell 1 2 rfl rfl
                have fs2 : W9.frozen? ⟨g3, 2, none⟩ = false := H9.out.free 1 2 rfl
                have s3 : W9.cell? ⟨g3, 3, none⟩ = some (.int .i64 bs) := H9.out.cell 1 3 rfl rfl
                have fs3 : W9.frozen? ⟨g3, 3, none⟩ = false := H9.out.free 1 3 rfl
                have s4 : W9.cell? ⟨g3, 4, none⟩ = some (.int .i64 bt) := H9.out.cell 1 4 rfl rfl
                have fs4 : W9.frozen? ⟨g3, 4, none⟩ = false := H9.out.free 1 4 rfl
                have s5 : W9.cell? ⟨g3, 5, none⟩ = some (.int .i64 bc) := H9.out.cell 1 5 rfl rfl
                have fs5 : W9.frozen? ⟨g3, 5, none⟩ = false := H9.out.free 1 5 rfl
                have s6 : W9.cell? ⟨g3, 6, none⟩ = some (.int .i64 (q : Int)) := H9.out.cell 1 6 rfl rfl
                have fs6 : W9.frozen? ⟨g3, 6, none⟩ = false := H9.out.free 1 6 rfl
                have s7 : W9.cell? ⟨g3, 7, none⟩ = some (.int .i64 sb) := H9.out.cell 1 7 rfl rfl
                have fs7 : W9.frozen? ⟨g3, 7, none⟩ = false := H9.out.free 1 7 rfl
                have s8 : W9.cell? ⟨g3, 8, none⟩ = some (.int .i64 0) := H9.out.cell 1 8 rfl rfl
                have fs8 : W9.frozen? ⟨g3, 8, none⟩ = false := H9.out.free 1 8 rfl
                have HS : Hid (Own w [(g4, 29, #[.slice (some ⟨r1, 0, none⟩) 2 2, .bool true, .slice none 0 0]), (g3, 26, #[.int .i64 pp, .string bn, .string bp, .int .i64 bs, .int .i64 bt, .int .i64 bc, .int .i64 ((q : Int) + 1), .int .i64 (sb + 1), .int .i64 0]), (r1, 37, #[.int .i64 1, .string ⟨#[]⟩, .string ⟨#[]⟩, .string ⟨#[]⟩, .int .i64 0, .int .i64 0, .int .i64 0, .int .i64 0, .bool false, .slice none 0 0, .slice none 0 0, .int .i64 5, .string bn, .string ⟨#[]⟩, .string ⟨#[]⟩, .int .i64 0, .int .i64 0, .int .i64 0, .int .i64 0, .bool false, .slice none 0 0, .slice none 0 0]), (g2, 37, (NCL nk nn nt nd nc ns ni nm nok ia il ic ja jl jc)), (g1, 23, #[.string bn, .string bp, .int .i64 bs, .int .i64 bt, .int .i64 bc])] (((((((((W9.setCell ⟨g3, 0, none⟩ (.int .i64 pp)).setCell ⟨g3, 1, none⟩ (.string bn)).setCell ⟨g3, 2, none⟩ (.string bp)).setCell ⟨g3, 3, none⟩ (.int .i64 bs)).setCell ⟨g3, 4, none⟩ (.int .i64 bt)).setCell ⟨g3, 5, none⟩ (.int .i64 bc)).setCell ⟨g3, 6, none⟩ (.int .i64 ((q : Int) + 1))).setCell ⟨g3, 7, none⟩ (.int .i64 (sb + 1))).setCell ⟨g3, 8, none⟩ (.int .i64 0))) := Lib.hid (by
                  have k1 := Own.lay H9.out [.int .i64 pp, .string bn, .string bp, .int .i64 bs, .int .i64 bt, .int .i64 bc, .int .i64 ((q : Int) + 1), .int .i64 (sb + 1), .int .i64 0] 0 1 #[.int .i64 pp, .string bn, .string bp, .int .i64 bs, .int .i64 bt, .int .i64 bc, .int .i64 ((q : Int) + 1), .int .i64 (sb + 1), .int .i64 0] rfl (by kernel_rfl)
                  exact k1.cast (by kernel_rfl) (by kernel_rfl))
                clear H9
                go_wp2
                clear s0 fs0 s1 fs1 s2 fs2 s3 fs3 s4 fs4 s5 fs5 s6 fs6 s7 fs7 s8 fs8
                go_roundw
                case rel => exact ⟨q + 1, pp, (q : Int) + 1, sb + 1, 0, by omega, by go_num, by omega, HS⟩
                case measure => simp [intOf]; omega
            · skip
              have s0 : wr.cell? ⟨g3, 0, none⟩ = some (.int .i64 pp) := HO.out.cell 1 0 rfl rfl
              have s1 : wr.cell? ⟨g3, 1, none⟩ = some (.string bn) := HO.out.cell 1 1 rfl rfl
              have s2 : wr.cell? ⟨g3, 2, none⟩ = some (.string bp) := HO.out.cell 1 2 rfl rfl
              have s3 : wr.cell? ⟨g3, 3, none⟩ = some (.int .i64 bs) := HO.out.cell 1 3 rfl rfl
              have s4 : wr.cell? ⟨g3, 4, none⟩ = some (.int .i64 bt) := HO.out.cell 1 4 rfl rfl
              have s5 : wr.cell? ⟨g3, 5, none⟩ = some (.int .i64 bc) := HO.out.cell 1 5 rfl rfl
              have s6 : wr.cell? ⟨g3, 6, none⟩ = some (.int .i64 (q : Int)) := HO.out.cell 1 6 rfl rfl
              have s7 : wr.cell? ⟨g3, 7, none⟩ = some (.int .i64 sb) := HO.out.cell 1 7 rfl rfl
              have s8 : wr.cell? ⟨g3, 8, none⟩ = some (.int .i64 0) := HO.out.cell 1 8 rfl rfl
              go_wp2_with fail
              clear s0 s1 s2 s3 s4 s5 s6 s7 s8
              refine (Tick_over pp bn bp bs bt bc (q : Int) sb 0 (by omega) (by omega) (by omega) (by omega) (by omega) (by omega) (by omega) _).mono ?_
              rintro e W9 ⟨r8, r9, rfl, hn9⟩
              have H9 := Lib.hid ((HO.out.call hn9).pick [2, 3, 4, 5, 6] (by decide))
              clear hn9
              have s0 : W9.cell? ⟨g3, 0, none⟩ = some (.int .i64 pp) := H9.out.cell 1 0 rfl rfl
              have fs0 : W9.frozen? ⟨g3, 0, none⟩ = false := H9.out.free 1 0 rfl
              have s1 : W9.cell? ⟨g3, 1, none⟩ = some (.string bn) := H9.out.cell 1 1 rfl rfl
              have fs1 : W9.frozen? ⟨g3, 1, none⟩ = false := H9.out.free 1 1 rfl
              have s2 : W9.cell? ⟨g3, 2, none⟩ = some (.string bp) := H9.out.cell 1 2 rfl rfl
              have fs2 : W9.frozen? ⟨g3, 2, none⟩ = false := H9.out.free 1 2 rfl
              have s3 : W9.cell? ⟨g3, 3, none⟩ = some (.int .i64 bs) := H9.out.cell 1 3 rfl rfl
              have fs3 : W9.frozen? ⟨g3, 3, none⟩ = false := H9.out.free 1 3 rfl
              have s4 : W9.cell? ⟨g3, 4, none⟩ = some (.int .i64 bt) := H9.out.cell 1 4 rfl rfl
              have fs4 : W9.frozen? ⟨g3, 4, none⟩ = false := H9.out.free 1 4 rfl
              have s5 : W9.cell? ⟨g3, 5, none⟩ = some (.int .i64 bc) := H9.out.cell 1 5 rfl rfl
              have fs5 : W9.frozen? ⟨g3, 5, none⟩ = false := H9.out.free 1 5 rfl
              have s6 : W9.cell? ⟨g3, 6, none⟩ = some (.int .i64 (q : Int)) := H9.out.cell 1 6 rfl rfl
              have fs6 : W9.frozen? ⟨g3, 6, none⟩ = false := H9.out.free 1 6 rfl
              have s7 : W9.cell? ⟨g3, 7, none⟩ = some (.int .i64 sb) := H9.out.cell 1 7 rfl rfl
              have fs7 : W9.frozen? ⟨g3, 7, none⟩ = false := H9.out.free 1 7 rfl
              have s8 : W9.cell? ⟨g3, 8, none⟩ = some (.int .i64 0) := H9.out.cell 1 8 rfl rfl
              have fs8 : W9.frozen? ⟨g3, 8, none⟩ = false := H9.out.free 1 8 rfl
              have HS : Hid (Own w [(g4, 29, #[.slice (some ⟨r1, 0, none⟩) 2 2, .bool true, .slice none 0 0]), (g3, 26, #[.int .i64 6, .string bn, .string bp, .int .i64 bs, .int .i64 bt, .int .i64 bc, .int .i64 ((q : Int) + 1), .int .i64 0, .int .i64 200]), (r1, 37, #[.int .i64 1, .string ⟨#[]⟩, .string ⟨#[]⟩, .string ⟨#[]⟩, .int .i64 0, .int .i64 0, .int .i64 0, .int .i64 0, .bool false, .slice none 0 0, .slice none 0 0, .int .i64 5, .string bn, .string ⟨#[]⟩, .string ⟨#[]⟩, .int .i64 0, .int .i64 0, .int .i64 0, .int .i64 0, .bool false, .slice none 0 0, .slice none 0 0]), (g2, 37, (NCL nk nn nt nd nc ns ni nm nok ia il ic ja jl jc)), (g1, 23, #[.string bn, .string bp, .int .i64 bs, .int .i64 bt, .int .i64 bc])] (((((((((W9.setCell ⟨g3, 0, none⟩ (.int .i64 6)).setCell ⟨g3, 1, none⟩ (.string bn)).setCell ⟨g3, 2, none⟩ (.string bp)).setCell ⟨g3, 3, none⟩ (.int .i64 bs)).setCell ⟨g3, 4, none⟩ (.int .i64 bt)).setCell ⟨g3, 5, none⟩ (.int .i64 bc)).setCell ⟨g3, 6, none⟩ (.int .i64 ((q : Int) + 1))).setCell ⟨g3, 7, none⟩ (.int .i64 0)).setCell ⟨g3, 8, none⟩ (.int .i64 200))) := Lib.hid (by
                have k1 := Own.lay H9.out [.int .i64 6, .string bn, .string bp, .int .i64 bs, .int .i64 bt, .int .i64 bc, .int .i64 ((q : Int) + 1), .int .i64 0, .int .i64 200] 0 1 #[.int .i64 6, .string bn, .string bp, .int .i64 bs, .int .i64 bt, .int .i64 bc, .int .i64 ((q : Int) + 1), .int .i64 0, .int .i64 200] rfl (by kernel_rfl)
                exact k1.cast (by kernel_rfl) (by kernel_rfl))
              clear H9
              go_wp2
              clear s0 fs0 s1 fs1 s2 fs2 s3 fs3 s4 fs4 s5 fs5 s6 fs6 s7 fs7 s8 fs8
              go_roundw
              case rel => exact ⟨q + 1, 6, (q : Int) + 1, 0, 200, by omega, by go_num, by omega, HS⟩
              case measure => simp [intOf]; omega
          · obtain ⟨rfl, rfl⟩ : pp = 6 ∧ cc = 200 := by omega
            have s0 : wr.cell? ⟨g3, 0, none⟩ = some (.int .i64 6) := HO.out.cell 1 0 rfl rfl
            have s8 : wr.cell? ⟨g3, 8, none⟩ = some (.int .i64 200) := HO.out.cell 1 8 rfl rfl
            go_wp2_with fail
            clear s0 s8
            refine (HL.out _).mono ?_
            rintro e W9 ⟨rfl, hn9⟩
            have H9 := Lib.hid (HO.out.call hn9)
            clear hn9
            go_wp2
            go_ret
            exact ⟨rfl, H9.out.low⟩
end Go.Proofs.YtpjkbamkaicoiaaDoor.Ses
end
