/- Contracts of functions of this translation, and what they come to; what is not used is left out. -/
import Derived.Test.YtpjkbamkaicoiaaDoorQSesB
import Derived.Test.YtpjkbamkaicoiaaDoorQSesE
import Derived.Test.YtpjkbamkaicoiaaDoorQg1
import Derived.Test.YtpjkbamkaicoiaaDoorQg6
import Derived.Test.YtpjkbamkaicoiaaDoorQCls
import Derived.Test.YtpjkbamkaicoiaaDoorQUtil
import Derived.Test.YtpjkbamkaicoiaaDoorQSoft
import Derived.Test.YtpjkbamkaicoiaaDoorQHanS
import Derived.Test.YtpjkbamkaicoiaaDoorQHanR
import Derived.Test.YtpjkbamkaicoiaaDoorQHanQ
import Derived.Test.YtpjkbamkaicoiaaDoorQRaQ
import Derived.Test.YtpjkbamkaicoiaaDoorQRefJ
import Derived.Test.YtpjkbamkaicoiaaDoorQRefF
import Derived.Test.YtpjkbamkaicoiaaDoorQGlyA
import Derived.Test.YtpjkbamkaicoiaaDoorQGlyP
import Derived.Test.YtpjkbamkaicoiaaDoorQJidP
import Derived.Test.YtpjkbamkaicoiaaDoorQStrs
import Derived.Test.YtpjkbamkaicoiaaDoorQShelf
import Derived.Test.YtpjkbamkaicoiaaDoorQRaP
import Derived.Test.YtpjkbamkaicoiaaDoorQRa2
import Derived.Test.YtpjkbamkaicoiaaDoorQRa1
import Derived.Test.YtpjkbamkaicoiaaDoorQRa0
import Derived.Test.YtpjkbamkaicoiaaDoorQg0
import Derived.Test.YtpjkbamkaicoiaaDoorQHanP
import Derived.Test.YtpjkbamkaicoiaaDoorQEscB
import Derived.Test.YtpjkbamkaicoiaaDoorQEscA
import Derived.Test.YtpjkbamkaicoiaaDoorQEscP
import Derived.Test.YtpjkbamkaicoiaaDoorQBld
import Derived.Test.YtpjkbamkaicoiaaDoorQHanA
import Derived.Test.YtpjkbamkaicoiaaDoorQRep
import Derived.Test.YtpjkbamkaicoiaaDoorQRc3
import Derived.Test.YtpjkbamkaicoiaaDoorQRc2
import Derived.Test.YtpjkbamkaicoiaaDoorQRc1
import Derived.Test.YtpjkbamkaicoiaaDoorQRc0
import Derived.Test.YtpjkbamkaicoiaaDoorQHanF
import Derived.Test.YtpjkbamkaicoiaaDoorQg2
import Derived.Test.YtpjkbamkaicoiaaDoorQg5
import Derived.Test.YtpjkbamkaicoiaaDoorQg7
import Derived.Test.YtpjkbamkaicoiaaDoorQBox
import Derived.Test.YtpjkbamkaicoiaaDoorQg3
import Derived.Test.YtpjkbamkaicoiaaDoorQSesU1
import Derived.Test.YtpjkbamkaicoiaaDoorQg8p1
import Derived.Test.YtpjkbamkaicoiaaDoorQg8p0
import Derived.Test.YtpjkbamkaicoiaaDoorQSesU0
import Derived.Test.YtpjkbamkaicoiaaDoorQSesTa
import Derived.Test.YtpjkbamkaicoiaaDoorQSesT0
import Derived.Test.YtpjkbamkaicoiaaDoorQg4

section
/- The law SessionOrder, walked whole. (Printed by gen_sesv.py.) -/
set_option linter.unusedVariables false
set_option linter.unusedSimpArgs false
set_option maxRecDepth 100000
namespace Go.Proofs.YtpjkbamkaicoiaaDoor.Ses
open Go.RowKit Go.Proofs.YtpjkbamkaicoiaaDoor.E
theorem order_round {ph st tm ct he sa cd : Int} {n pw D : ByteArray} {A : Option Addr} {L C : Nat} {ad : Addr} {k : Nat} {av : Nat → ActV} {w0 w : World} {a : Act} {M : Act → World → Prop} {Q : Exit → Act → World → Prop} (hA : Hid (AtM Tryd.prog 64 16 179 (EX A L C ad k (av k)) (oLive (k : Int)) (heapL (oTri ph n pw st tm ct he sa cd)) w0 a w)) (HK : Hid (KnR w0 A L C ad k av n pw D)) (hN : Hid (∀ ph' he' sa' cd' a' w', 1 ≤ ph' → ph' ≤ 6 → AtM Tryd.prog 64 16 179 (EX A L C ad k (av k)) (oLive (IntKind.wrap IntKind.i64 ((k : Int) + 1))) (heapL (oTri ph' n pw st tm ct he' sa' cd')) w0 a' w' → M a' w')) (hc0 : (ByteArray.toList (ByteArray.mk #[]) == ByteArray.toList pw) = false) (hc1 : ((D.size : Int) == 16) = true) (hc2 : (decide (1 ≤ ph)) = true) (hc3 : (decide (ph ≤ 6)) = true) (hc4 : (decide ((k : Int) < (L : Int))) = true) : wpMid Tryd.prog [true] (.seq orderR .skip) M Q a w := by
    rcases Bool.eq_false_or_eq_true ((av k).kd == (0 : Int)) with hc5 | hc5
    · rcases Bool.eq_false_or_eq_true (!decide (ph ≤ (5 : Int))) with hc7 | hc7
      · exact or_1 hA HK hN hc0 hc1 hc2 hc3 hc4 hc5 hc7
      · rcases Bool.eq_false_or_eq_true ((av k).nk == (3 : Int)) with hc8 | hc8
        · rcases Bool.eq_false_or_eq_true (ph != (5 : Int)) with hc13 | hc13
          · exact or_2 hA HK hN hc0 hc1 hc2 hc3 hc4 hc5 hc7 hc8 hc13
          · exact or_3 hA HK hN hc0 hc1 hc2 hc3 hc4 hc5 hc7 hc8 hc13
        · rcases Bool.eq_false_or_eq_true (ph == (1 : Int) && ((av k).nk == (6 : Int) && true)) with hc9 | hc9
          · exact or_4 hA HK hN hc0 hc1 hc2 hc3 hc4 hc5 hc7 hc8 hc9
          · rcases Bool.eq_false_or_eq_true (ph == (2 : Int) && ((av k).nk == (8 : Int) && true)) with hc10 | hc10
            · rcases Bool.eq_false_or_eq_true (!ByteArray.toList (Han.normB (av k).nn) == ByteArray.toList (Han.normB n)) with hc11 | hc11
              · exact or_5 hA HK hN hc0 hc1 hc2 hc3 hc4 hc5 hc7 hc8 hc9 hc10 hc11
              · rcases Bool.eq_false_or_eq_true ((av k).nc != (0 : Int)) with hc12 | hc12
                · exact or_6 hA HK hN hc0 hc1 hc2 hc3 hc4 hc5 hc7 hc8 hc9 hc10 hc11 hc12
                · rcases Bool.eq_false_or_eq_true (ByteArray.toList (av k).nd == ByteArray.toList pw) with hc17 | hc17
                  · exact or_7 hA HK hN hc0 hc1 hc2 hc3 hc4 hc5 hc7 hc8 hc9 hc10 hc11 hc12 hc17
                  · exact or_8 hA HK hN hc0 hc1 hc2 hc3 hc4 hc5 hc7 hc8 hc9 hc10 hc11 hc12 hc17
            · rcases Bool.eq_false_or_eq_true (ph == (3 : Int) && ((av k).nk == (9 : Int) && true)) with hc11 | hc11
              · exact or_9 hA HK hN hc0 hc1 hc2 hc3 hc4 hc5 hc7 hc8 hc9 hc10 hc11
              · rcases Bool.eq_false_or_eq_true (ph == (4 : Int) && ((av k).nk == (18 : Int) && true)) with hc12 | hc12
                · exact or_10 hA HK hN hc0 hc1 hc2 hc3 hc4 hc5 hc7 hc8 hc9 hc10 hc11 hc12
                · rcases Bool.eq_false_or_eq_true (ph == (4 : Int) && ((av k).nk == (19 : Int) && true)) with hc13 | hc13
                  · exact or_11 hA HK hN hc0 hc1 hc2 hc3 hc4 hc5 hc7 hc8 hc9 hc10 hc11 hc12 hc13
                  · rcases Bool.eq_false_or_eq_true (ph == (5 : Int)) with hc14 | hc14
                    · rcases Bool.eq_false_or_eq_true ((av k).nk == (13 : Int)) with hc15 | hc15
                      · exact or_12 hA HK hN hc0 hc1 hc2 hc3 hc4 hc5 hc7 hc8 hc9 hc10 hc11 hc12 hc13 hc14 hc15
                      · rcases Bool.eq_false_or_eq_true ((av k).nk == (14 : Int)) with hc16 | hc16
                        · exact or_13 hA HK hN hc0 hc1 hc2 hc3 hc4 hc5 hc7 hc8 hc9 hc10 hc11 hc12 hc13 hc14 hc15 hc16
                        · rcases Bool.eq_false_or_eq_true ((av k).nk == (16 : Int)) with hc17 | hc17
                          · exact or_14 hA HK hN hc0 hc1 hc2 hc3 hc4 hc5 hc7 hc8 hc9 hc10 hc11 hc12 hc13 hc14 hc15 hc16 hc17
                          · rcases Bool.eq_false_or_eq_true ((av k).nk == (18 : Int)) with hc18 | hc18
                            · exact or_15 hA HK hN hc0 hc1 hc2 hc3 hc4 hc5 hc7 hc8 hc9 hc10 hc11 hc12 hc13 hc14 hc15 hc16 hc17 hc18
                            · rcases Bool.eq_false_or_eq_true ((av k).nk == (19 : Int)) with hc19 | hc19
                              · exact or_16 hA HK hN hc0 hc1 hc2 hc3 hc4 hc5 hc7 hc8 hc9 hc10 hc11 hc12 hc13 hc14 hc15 hc16 hc17 hc18 hc19
                              · rcases Bool.eq_false_or_eq_true ((av k).nk == (25 : Int)) with hc20 | hc20
                                · exact or_17 hA HK hN hc0 hc1 hc2 hc3 hc4 hc5 hc7 hc8 hc9 hc10 hc11 hc12 hc13 hc14 hc15 hc16 hc17 hc18 hc19 hc20
                                · rcases Bool.eq_false_or_eq_true ((av k).nk == (27 : Int)) with hc21 | hc21
                                  · exact or_18 hA HK hN hc0 hc1 hc2 hc3 hc4 hc5 hc7 hc8 hc9 hc10 hc11 hc12 hc13 hc14 hc15 hc16 hc17 hc18 hc19 hc20 hc21
                                  · rcases Bool.eq_false_or_eq_true ((av k).nk == (29 : Int)) with hc22 | hc22
                                    · exact or_19 hA HK hN hc0 hc1 hc2 hc3 hc4 hc5 hc7 hc8 hc9 hc10 hc11 hc12 hc13 hc14 hc15 hc16 hc17 hc18 hc19 hc20 hc21 hc22
                                    · exact or_20 hA HK hN hc0 hc1 hc2 hc3 hc4 hc5 hc7 hc8 hc9 hc10 hc11 hc12 hc13 hc14 hc15 hc16 hc17 hc18 hc19 hc20 hc21 hc22
                    · exact or_21 hA HK hN hc0 hc1 hc2 hc3 hc4 hc5 hc7 hc8 hc9 hc10 hc11 hc12 hc13 hc14
    · rcases Bool.eq_false_or_eq_true ((av k).kd == (1 : Int)) with hc6 | hc6
      · rcases Bool.eq_false_or_eq_true (!decide (ph ≤ (5 : Int))) with hc8 | hc8
        · exact or_22 hA HK hN hc0 hc1 hc2 hc3 hc4 hc5 hc6 hc8
        · rcases Bool.eq_false_or_eq_true (decide (IntKind.wrap IntKind.i64 (he + (1 : Int)) ≥ (90 : Int))) with hc9 | hc9
          · rcases Bool.eq_false_or_eq_true (ph != (5 : Int)) with hc14 | hc14
            · exact or_23 hA HK hN hc0 hc1 hc2 hc3 hc4 hc5 hc6 hc8 hc9 hc14
            · exact or_24 hA HK hN hc0 hc1 hc2 hc3 hc4 hc5 hc6 hc8 hc9 hc14
          · rcases Bool.eq_false_or_eq_true (decide (IntKind.wrap IntKind.i64 (sa + (1 : Int)) ≥ (30 : Int))) with hc10 | hc10
            · rcases Bool.eq_false_or_eq_true (ph == (5 : Int)) with hc11 | hc11
              · exact or_25 hA HK hN hc0 hc1 hc2 hc3 hc4 hc5 hc6 hc8 hc9 hc10 hc11
              · exact or_26 hA HK hN hc0 hc1 hc2 hc3 hc4 hc5 hc6 hc8 hc9 hc10 hc11
            · exact or_27 hA HK hN hc0 hc1 hc2 hc3 hc4 hc5 hc6 hc8 hc9 hc10
      · rcases Bool.eq_false_or_eq_true ((av k).kd == (2 : Int)) with hc7 | hc7
        · rcases Bool.eq_false_or_eq_true (!decide (ph ≤ (5 : Int))) with hc9 | hc9
          · exact or_28 hA HK hN hc0 hc1 hc2 hc3 hc4 hc5 hc6 hc7 hc9
          · exact or_29 hA HK hN hc0 hc1 hc2 hc3 hc4 hc5 hc6 hc7 hc9
        · rcases Bool.eq_false_or_eq_true (decide (ph ≤ (5 : Int))) with hc9 | hc9
          · exact or_30 hA HK hN hc0 hc1 hc2 hc3 hc4 hc5 hc6 hc7 hc9
          · exact or_31 hA HK hN hc0 hc1 hc2 hc3 hc4 hc5 hc6 hc7 hc9
theorem order_no {ph st tm ct he sa cd : Int} {n pw : ByteArray} {A : Option Addr} {L C : Nat} {k : Nat} {w0 w : World} {a : Act} {M : Act → World → Prop} {Q : Exit → Act → World → Prop} (hA : AtM Tryd.prog 64 16 179 (E0 A L C) (oLive (k : Int)) (heapL (oTri ph n pw st tm ct he sa cd)) w0 a w) (hc4 : (decide ((k : Int) < (L : Int))) = false)
    (hE : ∀ a' w', AtM Tryd.prog 64 16 179 (E0 A L C) [] .leaf w0 a' w' → Q (.exit 0) a' w') : wpMid Tryd.prog [true] (.seq orderR .skip) M Q a w := by
  have klen : ∀ Fr, Fr = protX w0 (E0 A L C) → _ := fun Fr hF => hF ▸ know_len A L C (E0 A L C) rfl w0
  exact wp_segB (P := Tryd.prog) (st := false) (K := KP) mixed KP_ok (G := 64) (X := 16) (cf := 100000) (n := 60) (N := 179) (ext := (E0 A L C)) (x := Ex.exit 0) (out := []) (vs := []) (tri := []) (ora := [(0, Ora.val (Value.int IntKind.i64 (L : Int))), (1, oc)]) (fun Fr => by kernel_rfl) (fun Fr hF => all_cons (klen Fr hF) (all_cons hc4 (all_nil))) (by kernel_rfl) E0_in E0_side hA (fun a' w' h => hE a' w' (h.cast (by kernel_rfl) (by kernel_rfl)))
theorem order_post {A : Option Addr} {L C : Nat} {w0 w : World} {a : Act} (hA : AtM Tryd.prog 64 16 179 (E0 A L C) [] .leaf w0 a w) : orderP.wp Tryd.prog (bodyPost Tryd.prog Tryd.f7 fun e w' => e = .returned (.bool true) ∧ Below w0.heap.size w0 w') a w := by
  refine wp_wholeQ ?_
  exact wp_segB (P := Tryd.prog) (st := false) (K := KP) mixed KP_ok (G := 64) (X := 16) (cf := 100000) (n := 60) (N := 179) (ext := (E0 A L C)) (x := Ex.ret) (out := [4]) (vs := [Value.bool true]) (tri := []) (ora := []) (fun Fr => by kernel_rfl) (fun Fr hF => all_nil) (by kernel_rfl) E0_in E0_side hA (fun a' w' h => (show bodyPost Tryd.prog Tryd.f7 (fun e w' => e = .returned (.bool true) ∧ Below w0.heap.size w0 w') .ret a' w' from h.ret (i := 4) (v := .bool true) rfl (by kernel_rfl) rfl fun w2 hb => ⟨rfl, hb⟩))
theorem order_pre {n pw : ByteArray} {st tm ct ec et : Int} {A : Option Addr} {L C : Nat} {wt : Nat → Int} {w : World} {a : Act} {M : Act → World → Prop} (hA : Hid (AtM Tryd.prog 64 16 179 (E0 A L C) [(0, .agg #[.string n, .string pw, .int .i64 st, .int .i64 tm, .int .i64 ct]), (1, .chan (some 64))] .leaf w a w)) (h14 : ∀ Fr, Fr = protX w (E0 A L C) → PureC Tryd.prog Fr 14 #[.chan (some 64)] (.bool (smallV wt L))) (h40 : (decide (IntKind.wrap IntKind.i64 ((↑(ByteArray.size n) : Int) + (↑(ByteArray.size pw) : Int)) > (12000 : Int))) = false → ∀ Fr, PureC Tryd.prog Fr 40 #[.string n] (.int .i64 ec)) (h39 : (decide (IntKind.wrap IntKind.i64 ((↑(ByteArray.size n) : Int) + (↑(ByteArray.size pw) : Int)) > (12000 : Int))) = false → ∀ Fr, PureC Tryd.prog Fr 39 #[.string pw] (.int .i64 et)) (hN : Hid ((decide (IntKind.wrap IntKind.i64 ((↑(ByteArray.size n) : Int) + (↑(ByteArray.size pw) : Int)) > (12000 : Int))) = false → smallV wt L = true → (pw.toList == (ByteArray.mk #[]).toList) = false → ∀ a' w', AtM Tryd.prog 64 16 179 (E0 A L C) (oLive 0) (heapL (oTri 1 n pw st tm ct 0 0 0)) w a' w' → M a' w')) : wpMid Tryd.prog [true, true, true, true, false, true] orderC M (bodyPost Tryd.prog Tryd.f7 fun e w' => e = .returned (.bool true) ∧ Below w.heap.size w w') a w := by
  rcases Bool.eq_false_or_eq_true (decide (IntKind.wrap IntKind.i64 ((↑(ByteArray.size n) : Int) + (↑(ByteArray.size pw) : Int)) > (12000 : Int))) with hc0 | hc0
  · exact op_1 hA h14 h40 h39 hN hc0
  · rcases Bool.eq_false_or_eq_true (!(smallV wt L)) with hc1 | hc1
    · exact op_2 hA h14 h40 h39 hN hc0 hc1
    · rcases Bool.eq_false_or_eq_true (!ByteArray.toList pw == ByteArray.toList (ByteArray.mk #[])) with hc2 | hc2
      · rcases Bool.eq_false_or_eq_true (decide ((↑(ByteArray.size pw) : Int) ≤ (16 : Int))) with hc3 | hc3
        · rcases Bool.eq_false_or_eq_true (ec != (0 : Int)) with hc4 | hc4
          · exact op_3 hA h14 h40 h39 hN hc0 hc1 hc2 hc3 hc4
          · rcases Bool.eq_false_or_eq_true (!et == (0 : Int)) with hc5 | hc5
            · exact op_4 hA h14 h40 h39 hN hc0 hc1 hc2 hc3 hc4 hc5
            · rcases Bool.eq_false_or_eq_true (decide (st ≥ (0 : Int))) with hc6 | hc6
              · rcases Bool.eq_false_or_eq_true (!decide (st ≤ (65535 : Int))) with hc7 | hc7
                · exact op_5 hA h14 h40 h39 hN hc0 hc1 hc2 hc3 hc4 hc5 hc6 hc7
                · rcases Bool.eq_false_or_eq_true (decide (ct ≥ (0 : Int))) with hc8 | hc8
                  · rcases Bool.eq_false_or_eq_true (!decide (ct ≤ (65535 : Int))) with hc9 | hc9
                    · exact op_6 hA h14 h40 h39 hN hc0 hc1 hc2 hc3 hc4 hc5 hc6 hc7 hc8 hc9
                    · rcases Bool.eq_false_or_eq_true (decide (tm < (0 : Int))) with hc10 | hc10
                      · exact op_7 hA h14 h40 h39 hN hc0 hc1 hc2 hc3 hc4 hc5 hc6 hc7 hc8 hc9 hc10
                      · rcases Bool.eq_false_or_eq_true (decide (tm > (4294967295 : Int))) with hc11 | hc11
                        · exact op_8 hA h14 h40 h39 hN hc0 hc1 hc2 hc3 hc4 hc5 hc6 hc7 hc8 hc9 hc10 hc11
                        · exact op_9 hA h14 h40 h39 hN hc0 hc1 hc2 hc3 hc4 hc5 hc6 hc7 hc8 hc9 hc10 hc11
                  · exact op_10 hA h14 h40 h39 hN hc0 hc1 hc2 hc3 hc4 hc5 hc6 hc7 hc8
              · exact op_11 hA h14 h40 h39 hN hc0 hc1 hc2 hc3 hc4 hc5 hc6
        · rcases Bool.eq_false_or_eq_true (ec != (0 : Int)) with hc4 | hc4
          · exact op_12 hA h14 h40 h39 hN hc0 hc1 hc2 hc3 hc4
          · exact op_13 hA h14 h40 h39 hN hc0 hc1 hc2 hc3 hc4
      · rcases Bool.eq_false_or_eq_true (ec != (0 : Int)) with hc3 | hc3
        · exact op_14 hA h14 h40 h39 hN hc0 hc1 hc2 hc3
        · exact op_15 hA h14 h40 h39 hN hc0 hc1 hc2 hc3
theorem check_num (n : ByteArray) (h : n.size ≤ 1000000) : ∃ ec : Int, ∀ w, Calls Tryd.prog 40 #[.string n] w fun e w' => e = .returned (.int .i64 ec) ∧ Below w.heap.size w w' := by
  cases hn : HanP.isName n.data.toList with
  | true => exact ⟨0, check_yes n h hn⟩
  | false => exact ⟨40, check_no n h hn⟩
theorem text_num (n : ByteArray) (h : n.size ≤ 1000000) : ∃ et : Int, ∀ w, Calls Tryd.prog 39 #[.string n] w fun e w' => e = .returned (.int .i64 et) ∧ Below w.heap.size w w' := by
  cases hn : GlyP.isText n.data.toList with
  | true => exact ⟨0, text_yes n h hn⟩
  | false => exact ⟨10, text_no n h hn⟩
theorem SessionOrder_walk (n pw : ByteArray) (st tm ct : Int) (A : Option Addr) (L C : Nat) (av : Nat → ActV) (w : World) (q1 : n.size ≤ 140737488351232) (q2 : pw.size ≤ 140737488351232) (hA : Acts w A L av) (hL : L ≤ RB) :
    Calls Tryd.prog 7 #[.agg #[.string n, .string pw, .int .i64 st, .int .i64 tm, .int .i64 ct], .slice A L C] w fun e w' => e = .returned (.bool true) ∧ Below w.heap.size w w' := by
  unfold RB at hL
  obtain ⟨wt, hw⟩ := hA.wts
  have b0 : (decide (IntKind.wrap IntKind.i64 ((↑(ByteArray.size n) : Int) + (↑(ByteArray.size pw) : Int)) > (12000 : Int))) = false → n.size ≤ 12000 ∧ pw.size ≤ 12000 := fun h => by
    have h := of_decide_eq_false h
    rw [IntWalk.i64_in _ (by omega)] at h
    omega
  obtain ⟨ec, hec⟩ : ∃ ec : Int, (decide (IntKind.wrap IntKind.i64 ((↑(ByteArray.size n) : Int) + (↑(ByteArray.size pw) : Int)) > (12000 : Int))) = false → ∀ w, Calls Tryd.prog 40 #[.string n] w fun e w' => e = .returned (.int .i64 ec) ∧ Below w.heap.size w w' := by
    by_cases h : n.size ≤ 12000
    · obtain ⟨ec, x⟩ := check_num n (by omega)
      exact ⟨ec, fun _ => x⟩
    · exact ⟨0, fun x => absurd (b0 x).1 h⟩
  obtain ⟨et, het⟩ : ∃ et : Int, (decide (IntKind.wrap IntKind.i64 ((↑(ByteArray.size n) : Int) + (↑(ByteArray.size pw) : Int)) > (12000 : Int))) = false → ∀ w, Calls Tryd.prog 39 #[.string pw] w fun e w' => e = .returned (.int .i64 et) ∧ Below w.heap.size w w' := by
    by_cases h : pw.size ≤ 12000
    · obtain ⟨et, x⟩ := text_num pw (by omega)
      exact ⟨et, fun _ => x⟩
    · exact ⟨0, fun x => absurd (b0 x).2 h⟩
  refine calls_of_wp Tryd.func7 orderB ?_
  refine wp_mid [true, true, true, true, false, true] _ _ _ _ ?_
  rw [orderM, orderPo]
  refine order_pre (n := n) (pw := pw) (st := st) (tm := tm) (ct := ct) (ec := ec) (et := et) (A := A) (L := L) (C := C) (wt := wt) (Lib.hid (AtM.start E0_in E0_side (by kernel_rfl) (by kernel_rfl) rfl (fun q hq => by simp only [List.mem_cons, List.not_mem_nil, or_false] at hq; rcases hq with rfl | rfl <;> kernel_rfl))) (fun Fr hF => ?_) (fun x Fr => pureC_of (hec x) rfl (by rfl) Fr) (fun x Fr => pureC_of (het x) rfl (by rfl) Fr) (Lib.hid fun g0 g1 g2 a0 w0 h0 => ?_)
  · subst hF
    exact pureX (fun w' hw' => small_any A L C av wt w' (hA.same hw') ⟨hw.ge, hw.le, fun i hi w2 h2 => hw.call i hi w2 fun b hb => (h2 b (size_same hw' hb)).trans (hw' b hb)⟩ hL) rfl (by rfl)
  have hsm := small_each hw g1
  obtain ⟨zn, zp⟩ := b0 g0
  obtain ⟨I, hI⟩ : ∃ I : Act → World → Prop, I = fun a x => ∃ (k : Nat) (ph he sa cd : Int), k ≤ L ∧ 1 ≤ ph ∧ ph ≤ 6 ∧ AtM Tryd.prog 64 16 179 (E0 A L C) (oLive (k : Int)) (heapL (oTri ph n pw st tm ct he sa cd)) w a x := ⟨_, rfl⟩
  refine wp_block (wp_loop I (fun a _ => L - (match a.tmps.getD 8 undef with | .int _ n => n.toNat | _ => 0)) ?_ ?_)
  · rw [hI]
    exact ⟨0, 1, 0, 0, 0, by omega, by omega, by omega, h0⟩
  · intro a1 w1 h1
    rw [hI] at h1
    obtain ⟨k, ph, he, sa, cd, hk, p1, p2, hM⟩ := h1
    have hv := hM.val (i := 8) (v := .int .i64 (k : Int)) (by kernel_rfl) rfl
    refine wp_whole ?_
    by_cases hkL : k < L
    · obtain ⟨ad, rfl, ha⟩ := hA k hkL
      obtain ⟨za, zb⟩ := hsm k hkL
      obtain ⟨D, hD, HK⟩ := knows (C := C) (n := n) (pw := pw) hkL ha (by omega) (by omega) (by omega) (by omega)
      refine order_round (Lib.hid (hM.swap (ext' := EX (some ad) L C ad k (av k)) (m := 64) E0_in EX_in E0_side EX_side ⟨_, rfl, rfl⟩ (by kernel_rfl))) (Lib.hid HK) (Lib.hid fun ph' he' sa' cd' a2 w2 d1 d2 h2 => ?_) ?_ (by rw [hD]; rfl) (decide_eq_true p1) (decide_eq_true p2) (decide_eq_true (by omega))
      · have h2' := h2.swap (ext' := E0 (some ad) L C) (m := 64) EX_in E0_in EX_side E0_side ⟨_, rfl, rfl⟩ (by kernel_rfl)
        rw [IntWalk.i64_in _ (by omega)] at h2'
        have hv2 := h2'.val (i := 8) (v := .int .i64 ((k : Int) + 1)) (by kernel_rfl) rfl
        refine ⟨?_, ?_⟩
        · rw [hI]
          exact ⟨k + 1, ph', he', sa', cd', by omega, d1, d2, h2'⟩
        · rw [hv, hv2]
          simp only
          omega
      · cases hq : (ByteArray.toList (ByteArray.mk #[]) == ByteArray.toList pw) with
        | false => rfl
        | true => rw [beq_iff_eq] at hq; rw [← hq] at g2; simp at g2
    · refine order_no hM (decide_eq_false (by omega)) (fun a2 w2 h2 => ?_)
      exact inBlock_exit (order_post h2)
end Go.Proofs.YtpjkbamkaicoiaaDoor.Ses
end
