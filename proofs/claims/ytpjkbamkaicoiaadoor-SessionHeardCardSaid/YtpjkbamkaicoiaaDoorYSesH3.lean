/- Contracts of functions of this translation, and what they come to; what is not used is left out. -/
import Derived.Test.YtpjkbamkaicoiaaDoorYSesH2
import Derived.Test.YtpjkbamkaicoiaaDoorYSesH1
import Derived.Test.YtpjkbamkaicoiaaDoorYSesH0
import Derived.Test.YtpjkbamkaicoiaaDoorYg3
import Derived.Test.YtpjkbamkaicoiaaDoorYg5
import Derived.Test.YtpjkbamkaicoiaaDoorYBox
import Derived.Test.YtpjkbamkaicoiaaDoorYCls
import Derived.Test.YtpjkbamkaicoiaaDoorYUtil
import Derived.Test.YtpjkbamkaicoiaaDoorYg4
import Derived.Test.YtpjkbamkaicoiaaDoorYg2p1
import Derived.Test.YtpjkbamkaicoiaaDoorYg2p0
import Derived.Test.YtpjkbamkaicoiaaDoorYSesB
import Derived.Test.YtpjkbamkaicoiaaDoorYSesE
import Derived.Test.YtpjkbamkaicoiaaDoorYg1
import Derived.Test.YtpjkbamkaicoiaaDoorYSoft
import Derived.Test.YtpjkbamkaicoiaaDoorYHanS
import Derived.Test.YtpjkbamkaicoiaaDoorYHanR
import Derived.Test.YtpjkbamkaicoiaaDoorYHanQ
import Derived.Test.YtpjkbamkaicoiaaDoorYRaQ
import Derived.Test.YtpjkbamkaicoiaaDoorYRefJ
import Derived.Test.YtpjkbamkaicoiaaDoorYRefF
import Derived.Test.YtpjkbamkaicoiaaDoorYGlyA
import Derived.Test.YtpjkbamkaicoiaaDoorYGlyP
import Derived.Test.YtpjkbamkaicoiaaDoorYJidP
import Derived.Test.YtpjkbamkaicoiaaDoorYStrs
import Derived.Test.YtpjkbamkaicoiaaDoorYShelf
import Derived.Test.YtpjkbamkaicoiaaDoorYRaP
import Derived.Test.YtpjkbamkaicoiaaDoorYRa2
import Derived.Test.YtpjkbamkaicoiaaDoorYRa1
import Derived.Test.YtpjkbamkaicoiaaDoorYRa0
import Derived.Test.YtpjkbamkaicoiaaDoorYg0
import Derived.Test.YtpjkbamkaicoiaaDoorYHanP
import Derived.Test.YtpjkbamkaicoiaaDoorYEscB
import Derived.Test.YtpjkbamkaicoiaaDoorYEscA
import Derived.Test.YtpjkbamkaicoiaaDoorYEscP
import Derived.Test.YtpjkbamkaicoiaaDoorYBld
import Derived.Test.YtpjkbamkaicoiaaDoorYHanA
import Derived.Test.YtpjkbamkaicoiaaDoorYRep
import Derived.Test.YtpjkbamkaicoiaaDoorYRc3
import Derived.Test.YtpjkbamkaicoiaaDoorYRc2
import Derived.Test.YtpjkbamkaicoiaaDoorYRc1
import Derived.Test.YtpjkbamkaicoiaaDoorYRc0
import Derived.Test.YtpjkbamkaicoiaaDoorYHanF

section
/- wharflaw15.SessionHeard: all ways. (Printed by gen_heard3.py.) -/
set_option linter.unusedVariables false
set_option linter.unusedSimpArgs false
set_option maxRecDepth 100000
namespace Go.Proofs.YtpjkbamkaicoiaaDoor.Ses
open Go.RowKit U
set_option maxHeartbeats 4000000 in
theorem Heard_long (bn bp : ByteArray) (bs bt bc : Int) (wa : Option Addr) (wl wc : Nat) (nk : Int) (nn nt nd : ByteArray) (nc ns ni nm : Int) (nok : Bool) (ia : Option Addr) (il ic : Nat) (ja : Option Addr) (jl jc : Nat) (w : World) (y1 : bn.size ≤ 140737488351232) (y2 : bp.size ≤ 140737488351232) (hn : ¬ bn.size + bp.size ≤ 12000) : Calls Tryd.prog 4 #[.agg #[.string bn, .string bp, .int .i64 bs, .int .i64 bt, .int .i64 bc], .slice wa wl wc, .agg (NCL nk nn nt nd nc ns ni nm nok ia il ic ja jl jc)] w fun e w' => e = .returned (.bool true) ∧ Below w.heap.size w w' := by
  have HL := Lib.hid (Own.ret live_any)
  obtain ⟨g1, hg1⟩ : ∃ g, g = w.heap.size := ⟨_, rfl⟩
  obtain ⟨g2, hg2⟩ : ∃ g, g = w.heap.size + 1 := ⟨_, rfl⟩
  have H1' : Hid (Own w [(g2, 37, (NCL nk nn nt nd nc ns ni nm nok ia il ic ja jl jc)), (g1, 23, #[.string bn, .string bp, .int .i64 bs, .int .i64 bt, .int .i64 bc])] ((w.alloc (.cells #[.string bn, .string bp, .int .i64 bs, .int .i64 bt, .int .i64 bc] 23)).alloc (.cells (NCL nk nn nt nd nc ns ni nm nok ia il ic ja jl jc) 37))) := Lib.hid (((Own.start w).alloc _ _ hg1).alloc _ _ (by rw [hg2]; simp))
  go_enter Tryd.func4, Tryd.ntmps4
  go_wp2_with fail
  rw [← hg2]
  rw [← hg1]
  refine calls_own H1'.out (fun W1 hW => ?_)
  have H1 := Lib.hid hW
  clear hW H1' hg1 hg2
  refine (HL.out _).mono ?_
  rintro e W9 ⟨rfl, hn9⟩
  have H9 := Lib.hid (H1.out.call hn9)
  clear hn9
  go_wp2
  go_ret
  exact ⟨rfl, H9.out.low⟩
set_option maxHeartbeats 4000000 in
theorem Heard_many (bn bp : ByteArray) (bs bt bc : Int) (wa : Option Addr) (wl wc : Nat) (nk : Int) (nn nt nd : ByteArray) (nc ns ni nm : Int) (nok : Bool) (ia : Option Addr) (il ic : Nat) (ja : Option Addr) (jl jc : Nat) (w : World) (hn : bn.size + bp.size ≤ 12000) (hw : ¬ wl ≤ 20) : Calls Tryd.prog 4 #[.agg #[.string bn, .string bp, .int .i64 bs, .int .i64 bt, .int .i64 bc], .slice wa wl wc, .agg (NCL nk nn nt nd nc ns ni nm nok ia il ic ja jl jc)] w fun e w' => e = .returned (.bool true) ∧ Below w.heap.size w w' := by
  have HL := Lib.hid (Own.ret live_any)
  obtain ⟨g1, hg1⟩ : ∃ g, g = w.heap.size := ⟨_, rfl⟩
  obtain ⟨g2, hg2⟩ : ∃ g, g = w.heap.size + 1 := ⟨_, rfl⟩
  have H1' : Hid (Own w [(g2, 37, (NCL nk nn nt nd nc ns ni nm nok ia il ic ja jl jc)), (g1, 23, #[.string bn, .string bp, .int .i64 bs, .int .i64 bt, .int .i64 bc])] ((w.alloc (.cells #[.string bn, .string bp, .int .i64 bs, .int .i64 bt, .int .i64 bc] 23)).alloc (.cells (NCL nk nn nt nd nc ns ni nm nok ia il ic ja jl jc) 37))) := Lib.hid (((Own.start w).alloc _ _ hg1).alloc _ _ (by rw [hg2]; simp))
  go_enter Tryd.func4, Tryd.ntmps4
  go_wp2_with fail
  rw [← hg2]
  rw [← hg1]
  refine calls_own H1'.out (fun W1 hW => ?_)
  have H1 := Lib.hid hW
  clear hW H1' hg1 hg2
  refine (HL.out _).mono ?_
  rintro e W9 ⟨rfl, hn9⟩
  have H9 := Lib.hid (H1.out.call hn9)
  clear hn9
  go_wp2
  go_ret
  exact ⟨rfl, H9.out.low⟩
set_option maxHeartbeats 4000000 in
theorem Heard_bye (bn bp : ByteArray) (bs bt bc : Int) (wa : Option Addr) (wl wc : Nat) (nk : Int) (nn nt nd : ByteArray) (nc ns ni nm : Int) (nok : Bool) (ia : Option Addr) (il ic : Nat) (ja : Option Addr) (jl jc : Nat) (w : World) (hn : bn.size + bp.size ≤ 12000) (hw : wl ≤ 20) (H3 : Hid ((nk == 3) = true)) (hI : Items w ia il) (hl : il ≤ 9223372036854775807) (z1 : nn.size ≤ RB) (z2 : nt.size ≤ RB) (z3 : nd.size ≤ RB) (z4 : jl ≤ RB) : Calls Tryd.prog 4 #[.agg #[.string bn, .string bp, .int .i64 bs, .int .i64 bt, .int .i64 bc], .slice wa wl wc, .agg (NCL nk nn nt nd nc ns ni nm nok ia il ic ja jl jc)] w fun e w' => e = .returned (.bool true) ∧ Below w.heap.size w w' := by
  have HL := Lib.hid (Own.ret live_any)
  have HWT := Lib.hid (fun (W : World) (hb : Below w.heap.size w W) => Weight_some nk nn nt nd nc ns ni nm nok ia il ic ja jl jc 12000 W (hI.below hb) hl z1 z2 z3 z4 (by omega))
  clear hI hl z1 z2 z3 z4
  obtain ⟨g1, hg1⟩ : ∃ g, g = w.heap.size := ⟨_, rfl⟩
  obtain ⟨g2, hg2⟩ : ∃ g, g = w.heap.size + 1 := ⟨_, rfl⟩
  have H1' : Hid (Own w [(g2, 37, (NCL nk nn nt nd nc ns ni nm nok ia il ic ja jl jc)), (g1, 23, #[.string bn, .string bp, .int .i64 bs, .int .i64 bt, .int .i64 bc])] ((w.alloc (.cells #[.string bn, .string bp, .int .i64 bs, .int .i64 bt, .int .i64 bc] 23)).alloc (.cells (NCL nk nn nt nd nc ns ni nm nok ia il ic ja jl jc) 37))) := Lib.hid (((Own.start w).alloc _ _ hg1).alloc _ _ (by rw [hg2]; simp))
  go_enter Tryd.func4, Tryd.ntmps4
  go_wp2_with fail
  rw [← hg2]
  rw [← hg1]
  refine calls_own H1'.out (fun W1 hW => ?_)
  have H1 := Lib.hid hW
  clear hW H1' hg1 hg2
  refine (HWT.out _ H1.out.low).mono ?_
  rintro e W2 ⟨⟨r, rfl, hr⟩, hn2⟩
  have H2 := Lib.hid (H1.out.call hn2)
  clear hn2 H1 HWT
  by_cases hr2 : 12000 < r
  · go_wp2_with fail
    refine (HL.out _).mono ?_
    rintro e W9 ⟨rfl, hn9⟩
    have H9 := Lib.hid (H2.out.call hn9)
    clear hn9
    go_wp2
    go_ret
    exact ⟨rfl, H9.out.low⟩
  · have c0 : W2.cell? ⟨g2, 0, none⟩ = some (.int .i64 nk) := H2.out.cell 0 0 rfl rfl
    have e1 : decide ((12000 : Int) < ↑bn.size + ↑bp.size) = false := decide_eq_false (by omega)
    have e2 : decide ((20 : Int) < ↑wl) = false := decide_eq_false (by omega)
    have e3 : decide (12000 < r) = false := decide_eq_false hr2
    have e4 : (nk == 3) = true := H3.out
    go_wp2_with fail
    clear c0 e1 e2 e3 e4
    refine (HL.out _).mono ?_
    rintro e W9 ⟨rfl, hn9⟩
    have H9 := Lib.hid (H2.out.call hn9)
    clear hn9
    go_wp2
    go_ret
    exact ⟨rfl, H9.out.low⟩
set_option maxHeartbeats 4000000 in
theorem Heard_let (bn bp : ByteArray) (bs bt bc : Int) (wa : Option Addr) (wl wc : Nat) (nk : Int) (nn nt nd : ByteArray) (nc ns ni nm : Int) (nok : Bool) (ia : Option Addr) (il ic : Nat) (ja : Option Addr) (jl jc : Nat) (w : World) (hn : bn.size + bp.size ≤ 12000) (hw : wl ≤ 20) (H3 : Hid ((nk == 3) = false)) (H8 : Hid ((nk == 8) = true)) (hI : Items w ia il) (hl : il ≤ 9223372036854775807) (z1 : nn.size ≤ RB) (z2 : nt.size ≤ RB) (z3 : nd.size ≤ RB) (z4 : jl ≤ RB) : Calls Tryd.prog 4 #[.agg #[.string bn, .string bp, .int .i64 bs, .int .i64 bt, .int .i64 bc], .slice wa wl wc, .agg (NCL nk nn nt nd nc ns ni nm nok ia il ic ja jl jc)] w fun e w' => e = .returned (.bool true) ∧ Below w.heap.size w w' := by
  have HL := Lib.hid (Own.ret live_any)
  have HWT := Lib.hid (fun (W : World) (hb : Below w.heap.size w W) => Weight_some nk nn nt nd nc ns ni nm nok ia il ic ja jl jc 12000 W (hI.below hb) hl z1 z2 z3 z4 (by omega))
  clear hI hl z1 z2 z3 z4
  obtain ⟨g1, hg1⟩ : ∃ g, g = w.heap.size := ⟨_, rfl⟩
  obtain ⟨g2, hg2⟩ : ∃ g, g = w.heap.size + 1 := ⟨_, rfl⟩
  have H1' : Hid (Own w [(g2, 37, (NCL nk nn nt nd nc ns ni nm nok ia il ic ja jl jc)), (g1, 23, #[.string bn, .string bp, .int .i64 bs, .int .i64 bt, .int .i64 bc])] ((w.alloc (.cells #[.string bn, .string bp, .int .i64 bs, .int .i64 bt, .int .i64 bc] 23)).alloc (.cells (NCL nk nn nt nd nc ns ni nm nok ia il ic ja jl jc) 37))) := Lib.hid (((Own.start w).alloc _ _ hg1).alloc _ _ (by rw [hg2]; simp))
  go_enter Tryd.func4, Tryd.ntmps4
  go_wp2_with fail
  rw [← hg2]
  rw [← hg1]
  refine calls_own H1'.out (fun W1 hW => ?_)
  have H1 := Lib.hid hW
  clear hW H1' hg1 hg2
  refine (HWT.out _ H1.out.low).mono ?_
  rintro e W2 ⟨⟨r, rfl, hr⟩, hn2⟩
  have H2 := Lib.hid (H1.out.call hn2)
  clear hn2 H1 HWT
  by_cases hr2 : 12000 < r
  · go_wp2_with fail
    refine (HL.out _).mono ?_
    rintro e W9 ⟨rfl, hn9⟩
    have H9 := Lib.hid (H2.out.call hn9)
    clear hn9
    go_wp2
    go_ret
    exact ⟨rfl, H9.out.low⟩
  · have c0 : W2.cell? ⟨g2, 0, none⟩ = some (.int .i64 nk) := H2.out.cell 0 0 rfl rfl
    have e1 : decide ((12000 : Int) < ↑bn.size + ↑bp.size) = false := decide_eq_false (by omega)
    have e2 : decide ((20 : Int) < ↑wl) = false := decide_eq_false (by omega)
    have e3 : decide (12000 < r) = false := decide_eq_false hr2
    have e4 : (nk == 3) = false := H3.out
    have e5 : (nk == 8) = true := H8.out
    go_wp2_with fail
    clear c0 e1 e2 e3 e4 e5
    refine (HL.out _).mono ?_
    rintro e W9 ⟨rfl, hn9⟩
    have H9 := Lib.hid (H2.out.call hn9)
    clear hn9
    go_wp2
    go_ret
    exact ⟨rfl, H9.out.low⟩
set_option maxHeartbeats 4000000 in
theorem Heard_no (bn bp : ByteArray) (bs bt bc : Int) (wa : Option Addr) (wl wc : Nat) (nk : Int) (nn nt nd : ByteArray) (nc ns ni nm : Int) (nok : Bool) (ia : Option Addr) (il ic : Nat) (ja : Option Addr) (jl jc : Nat) (w : World) (hST : ∀ w, Calls Tryd.prog 21 #[.string bn, .string bp, .int .i64 bs, .int .i64 bt, .int .i64 bc] w fun e w' => e = .returned NOV ∧ Own w [] w') (hn : bn.size + bp.size ≤ 12000) (hw : wl ≤ 20) (H3 : Hid ((nk == 3) = false)) (H8 : Hid ((nk == 8) = false)) (hI : Items w ia il) (hl : il ≤ 9223372036854775807) (z1 : nn.size ≤ RB) (z2 : nt.size ≤ RB) (z3 : nd.size ≤ RB) (z4 : jl ≤ RB) : Calls Tryd.prog 4 #[.agg #[.string bn, .string bp, .int .i64 bs, .int .i64 bt, .int .i64 bc], .slice wa wl wc, .agg (NCL nk nn nt nd nc ns ni nm nok ia il ic ja jl jc)] w fun e w' => e = .returned (.bool true) ∧ Below w.heap.size w w' := by
  have HB := Lib.hid (begin_no bn bp bs bt bc hST)
  clear hST
  have HL := Lib.hid (Own.ret live_any)
  have HWT := Lib.hid (fun (W : World) (hb : Below w.heap.size w W) => Weight_some nk nn nt nd nc ns ni nm nok ia il ic ja jl jc 12000 W (hI.below hb) hl z1 z2 z3 z4 (by omega))
  clear hI hl z1 z2 z3 z4
  obtain ⟨g1, hg1⟩ : ∃ g, g = w.heap.size := ⟨_, rfl⟩
  obtain ⟨g2, hg2⟩ : ∃ g, g = w.heap.size + 1 := ⟨_, rfl⟩
  have H1' : Hid (Own w [(g2, 37, (NCL nk nn nt nd nc ns ni nm nok ia il ic ja jl jc)), (g1, 23, #[.string bn, .string bp, .int .i64 bs, .int .i64 bt, .int .i64 bc])] ((w.alloc (.cells #[.string bn, .string bp, .int .i64 bs, .int .i64 bt, .int .i64 bc] 23)).alloc (.cells (NCL nk nn nt nd nc ns ni nm nok ia il ic ja jl jc) 37))) := Lib.hid (((Own.start w).alloc _ _ hg1).alloc _ _ (by rw [hg2]; simp))
  go_enter Tryd.func4, Tryd.ntmps4
  go_wp2_with fail
  rw [← hg2]
  rw [← hg1]
  refine calls_own H1'.out (fun W1 hW => ?_)
  have H1 := Lib.hid hW
  clear hW H1' hg1 hg2
  refine (HWT.out _ H1.out.low).mono ?_
  rintro e W2 ⟨⟨r, rfl, hr⟩, hn2⟩
  have H2 := Lib.hid (H1.out.call hn2)
  clear hn2 H1 HWT
  by_cases hr2 : 12000 < r
  · go_wp2_with fail
    refine (HL.out _).mono ?_
    rintro e W9 ⟨rfl, hn9⟩
    have H9 := Lib.hid (H2.out.call hn9)
    clear hn9
    go_wp2
    go_ret
    exact ⟨rfl, H9.out.low⟩
  · have c0 : W2.cell? ⟨g2, 0, none⟩ = some (.int .i64 nk) := H2.out.cell 0 0 rfl rfl
    have e1 : decide ((12000 : Int) < ↑bn.size + ↑bp.size) = false := decide_eq_false (by omega)
    have e2 : decide ((20 : Int) < ↑wl) = false := decide_eq_false (by omega)
    have e3 : decide (12000 < r) = false := decide_eq_false hr2
    have e4 : (nk == 3) = false := H3.out
    have e5 : (nk == 8) = false := H8.out
    have b0 : W2.cell? ⟨g1, 0, none⟩ = some (.string bn) := H2.out.cell 1 0 rfl rfl
    have b1 : W2.cell? ⟨g1, 1, none⟩ = some (.string bp) := H2.out.cell 1 1 rfl rfl
    have b2 : W2.cell? ⟨g1, 2, none⟩ = some (.int .i64 bs) := H2.out.cell 1 2 rfl rfl
    have b3 : W2.cell? ⟨g1, 3, none⟩ = some (.int .i64 bt) := H2.out.cell 1 3 rfl rfl
    have b4 : W2.cell? ⟨g1, 4, none⟩ = some (.int .i64 bc) := H2.out.cell 1 4 rfl rfl
    go_wp2_with fail
    clear c0 b0 b1 b2 b3 b4 e1 e2 e3 e4 e5
    refine (HB.out _).mono ?_
    rintro e W3 ⟨rfl, hn3⟩
    have H4 := Lib.hid (H2.out.call hn3)
    clear hn3
    obtain ⟨g3, hg3⟩ : ∃ g, g = W3.heap.size := ⟨_, rfl⟩
    obtain ⟨g4, hg4⟩ : ∃ g, g = W3.heap.size + 1 := ⟨_, rfl⟩
    have H5 : Hid (Own w [(g4, 29, #[.slice none 0 0, .bool false, .slice none 0 0]), (g3, 26, #[.int .i64 0, .string ⟨#[]⟩, .string ⟨#[]⟩, .int .i64 0, .int .i64 0, .int .i64 0, .int .i64 0, .int .i64 0, .int .i64 0]), (g2, 37, (NCL nk nn nt nd nc ns ni nm nok ia il ic ja jl jc)), (g1, 23, #[.string bn, .string bp, .int .i64 bs, .int .i64 bt, .int .i64 bc])] ((W3.alloc (.cells #[.int .i64 0, .string ⟨#[]⟩, .string ⟨#[]⟩, .int .i64 0, .int .i64 0, .int .i64 0, .int .i64 0, .int .i64 0, .int .i64 0] 26)).alloc (.cells #[.slice none 0 0, .bool false, .slice none 0 0] 29))) := Lib.hid (((H4.out.alloc 26 #[.int .i64 0, .string ⟨#[]⟩, .string ⟨#[]⟩, .int .i64 0, .int .i64 0, .int .i64 0, .int .i64 0, .int .i64 0, .int .i64 0] hg3).alloc 29 #[.slice none 0 0, .bool false, .slice none 0 0] (g := g4) (by rw [hg4]; simp)).cast (by kernel_rfl) (by kernel_rfl))
    clear H4 hg3 hg4
    go_wp2_with fail
    refine (HL.out _).mono ?_
    rintro e W9 ⟨rfl, hn9⟩
    have H9 := Lib.hid (H5.out.call hn9)
    clear hn9
    go_wp2
    go_ret
    exact ⟨rfl, H9.out.low⟩
theorem SessionHeard_walk (bn bp : ByteArray) (bs bt bc : Int) (wa : Option Addr) (wl wc : Nat) (nk : Int) (nn nt nd : ByteArray) (nc ns ni nm : Int) (nok : Bool) (ia : Option Addr) (il ic : Nat) (ja : Option Addr) (jl jc : Nat) (w : World) (y1 : bn.size ≤ 140737488351232) (y2 : bp.size ≤ 140737488351232) (hW : Ints w wa wl) (hI : Items w ia il) (hl : il ≤ 9223372036854775807) (z1 : nn.size ≤ RB) (z2 : nt.size ≤ RB) (z3 : nd.size ≤ RB) (z4 : jl ≤ RB) : Calls Tryd.prog 4 #[.agg #[.string bn, .string bp, .int .i64 bs, .int .i64 bt, .int .i64 bc], .slice wa wl wc, .agg (NCL nk nn nt nd nc ns ni nm nok ia il ic ja jl jc)] w fun e w' => e = .returned (.bool true) ∧ Below w.heap.size w w' := by
  by_cases hn : bn.size + bp.size ≤ 12000
  · by_cases hw : wl ≤ 20
    · by_cases k3 : nk = 3
      · exact Heard_bye bn bp bs bt bc wa wl wc nk nn nt nd nc ns ni nm nok ia il ic ja jl jc w hn hw (Lib.hid (by rw [k3]; rfl)) hI hl z1 z2 z3 z4
      · by_cases k8 : nk = 8
        · exact Heard_let bn bp bs bt bc wa wl wc nk nn nt nd nc ns ni nm nok ia il ic ja jl jc w hn hw (Lib.hid (beq_eq_false_iff_ne.mpr k3)) (Lib.hid (by rw [k8]; rfl)) hI hl z1 z2 z3 z4
        · rcases start_two bn bp bs bt bc (by omega) (by omega) with h | hST
          · exact Heard_in bn bp bs bt bc wa wl wc nk nn nt nd nc ns ni nm nok ia il ic ja jl jc w h hn hw k3 k8 hW hI hl z1 z2 z3 z4
          · exact Heard_no bn bp bs bt bc wa wl wc nk nn nt nd nc ns ni nm nok ia il ic ja jl jc w hST hn hw (Lib.hid (beq_eq_false_iff_ne.mpr k3)) (Lib.hid (beq_eq_false_iff_ne.mpr k8)) hI hl z1 z2 z3 z4
    · exact Heard_many bn bp bs bt bc wa wl wc nk nn nt nd nc ns ni nm nok ia il ic ja jl jc w hn hw
  · exact Heard_long bn bp bs bt bc wa wl wc nk nn nt nd nc ns ni nm nok ia il ic ja jl jc w y1 y2 hn
end Go.Proofs.YtpjkbamkaicoiaaDoor.Ses
end
