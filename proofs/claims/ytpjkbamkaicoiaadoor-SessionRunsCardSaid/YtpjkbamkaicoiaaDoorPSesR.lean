/- Contracts of functions of this translation, and what they come to; what is not used is left out. -/
import Derived.Test.YtpjkbamkaicoiaaDoorPSesB
import Derived.Test.YtpjkbamkaicoiaaDoorPg1
import Derived.Test.YtpjkbamkaicoiaaDoorPg5
import Derived.Test.YtpjkbamkaicoiaaDoorPCls
import Derived.Test.YtpjkbamkaicoiaaDoorPUtil
import Derived.Test.YtpjkbamkaicoiaaDoorPSoft
import Derived.Test.YtpjkbamkaicoiaaDoorPHanS
import Derived.Test.YtpjkbamkaicoiaaDoorPHanR
import Derived.Test.YtpjkbamkaicoiaaDoorPHanQ
import Derived.Test.YtpjkbamkaicoiaaDoorPRaQ
import Derived.Test.YtpjkbamkaicoiaaDoorPRefJ
import Derived.Test.YtpjkbamkaicoiaaDoorPRefF
import Derived.Test.YtpjkbamkaicoiaaDoorPGlyA
import Derived.Test.YtpjkbamkaicoiaaDoorPGlyP
import Derived.Test.YtpjkbamkaicoiaaDoorPJidP
import Derived.Test.YtpjkbamkaicoiaaDoorPStrs
import Derived.Test.YtpjkbamkaicoiaaDoorPShelf
import Derived.Test.YtpjkbamkaicoiaaDoorPRaP
import Derived.Test.YtpjkbamkaicoiaaDoorPRa2
import Derived.Test.YtpjkbamkaicoiaaDoorPRa1
import Derived.Test.YtpjkbamkaicoiaaDoorPRa0
import Derived.Test.YtpjkbamkaicoiaaDoorPg0
import Derived.Test.YtpjkbamkaicoiaaDoorPHanP
import Derived.Test.YtpjkbamkaicoiaaDoorPEscB
import Derived.Test.YtpjkbamkaicoiaaDoorPEscA
import Derived.Test.YtpjkbamkaicoiaaDoorPEscP
import Derived.Test.YtpjkbamkaicoiaaDoorPBld
import Derived.Test.YtpjkbamkaicoiaaDoorPHanA
import Derived.Test.YtpjkbamkaicoiaaDoorPRep
import Derived.Test.YtpjkbamkaicoiaaDoorPRc3
import Derived.Test.YtpjkbamkaicoiaaDoorPRc2
import Derived.Test.YtpjkbamkaicoiaaDoorPRc1
import Derived.Test.YtpjkbamkaicoiaaDoorPRc0
import Derived.Test.YtpjkbamkaicoiaaDoorPHanF
import Derived.Test.YtpjkbamkaicoiaaDoorPg4
import Derived.Test.YtpjkbamkaicoiaaDoorPg6
import Derived.Test.YtpjkbamkaicoiaaDoorPBox
import Derived.Test.YtpjkbamkaicoiaaDoorPg2p1
import Derived.Test.YtpjkbamkaicoiaaDoorPg2p0
import Derived.Test.YtpjkbamkaicoiaaDoorPSesU1
import Derived.Test.YtpjkbamkaicoiaaDoorPg7p1
import Derived.Test.YtpjkbamkaicoiaaDoorPg7p0
import Derived.Test.YtpjkbamkaicoiaaDoorPSesU0
import Derived.Test.YtpjkbamkaicoiaaDoorPSesTa
import Derived.Test.YtpjkbamkaicoiaaDoorPSesT0
import Derived.Test.YtpjkbamkaicoiaaDoorPSesE1
import Derived.Test.YtpjkbamkaicoiaaDoorPSesE0
import Derived.Test.YtpjkbamkaicoiaaDoorPg3

section
/- The law SessionRuns, walked whole. (Printed by gen_sesr.py.) -/
set_option linter.unusedVariables false
set_option linter.unusedSimpArgs false
set_option maxRecDepth 100000
namespace Go.Proofs.YtpjkbamkaicoiaaDoor.Ses
open Go.RowKit Go.Proofs.YtpjkbamkaicoiaaDoor.E
theorem runs_round {ph st tm ct he sa cd : Int} {n pw D : ByteArray} {A : Option Addr} {L C : Nat} {ad : Addr} {k : Nat} {av : Nat → ActV} {w0 w : World} {a : Act} {M : Act → World → Prop} {Q : Exit → Act → World → Prop} (hA : Hid (AtM Tryd.prog 64 16 110 (EX A L C ad k (av k)) (rLive (k : Int)) (heapL (rTri ph n pw st tm ct he sa cd)) w0 a w)) (HK : Hid (KnR w0 A L C ad k av n pw D)) (hN : Hid (∀ ph' he' sa' cd' a' w', AtM Tryd.prog 64 16 110 (EX A L C ad k (av k)) (rLive (IntKind.wrap IntKind.i64 ((k : Int) + 1))) (heapL (rTri ph' n pw st tm ct he' sa' cd')) w0 a' w' → M a' w')) (hc0 : (decide ((k : Int) < (L : Int))) = true) : wpMid Tryd.prog [true] (.seq runsR .skip) M Q a w := by
    rcases Bool.eq_false_or_eq_true ((av k).kd == (0 : Int)) with hc1 | hc1
    · rcases Bool.eq_false_or_eq_true (decide (ph ≥ (1 : Int))) with hc2 | hc2
      · rcases Bool.eq_false_or_eq_true (!decide (ph ≤ (5 : Int))) with hc3 | hc3
        · exact rr_1 hA HK hN hc0 hc1 hc2 hc3
        · rcases Bool.eq_false_or_eq_true ((av k).nk == (3 : Int)) with hc4 | hc4
          · exact rr_2 hA HK hN hc0 hc1 hc2 hc3 hc4
          · rcases Bool.eq_false_or_eq_true (ph == (1 : Int) && ((av k).nk == (6 : Int) && true)) with hc5 | hc5
            · exact rr_3 hA HK hN hc0 hc1 hc2 hc3 hc4 hc5
            · rcases Bool.eq_false_or_eq_true (ph == (2 : Int) && ((av k).nk == (8 : Int) && true)) with hc6 | hc6
              · rcases Bool.eq_false_or_eq_true (!ByteArray.toList (Han.normB (av k).nn) == ByteArray.toList (Han.normB n)) with hc7 | hc7
                · exact rr_4 hA HK hN hc0 hc1 hc2 hc3 hc4 hc5 hc6 hc7
                · rcases Bool.eq_false_or_eq_true ((av k).nc != (0 : Int)) with hc8 | hc8
                  · exact rr_5 hA HK hN hc0 hc1 hc2 hc3 hc4 hc5 hc6 hc7 hc8
                  · exact rr_6 hA HK hN hc0 hc1 hc2 hc3 hc4 hc5 hc6 hc7 hc8
              · rcases Bool.eq_false_or_eq_true (ph == (3 : Int) && ((av k).nk == (9 : Int) && true)) with hc7 | hc7
                · exact rr_7 hA HK hN hc0 hc1 hc2 hc3 hc4 hc5 hc6 hc7
                · rcases Bool.eq_false_or_eq_true (ph == (4 : Int) && ((av k).nk == (18 : Int) && true)) with hc8 | hc8
                  · exact rr_8 hA HK hN hc0 hc1 hc2 hc3 hc4 hc5 hc6 hc7 hc8
                  · rcases Bool.eq_false_or_eq_true (ph == (4 : Int) && ((av k).nk == (19 : Int) && true)) with hc9 | hc9
                    · exact rr_9 hA HK hN hc0 hc1 hc2 hc3 hc4 hc5 hc6 hc7 hc8 hc9
                    · rcases Bool.eq_false_or_eq_true (ph == (5 : Int)) with hc10 | hc10
                      · rcases Bool.eq_false_or_eq_true ((av k).nk == (13 : Int)) with hc11 | hc11
                        · exact rr_10 hA HK hN hc0 hc1 hc2 hc3 hc4 hc5 hc6 hc7 hc8 hc9 hc10 hc11
                        · rcases Bool.eq_false_or_eq_true ((av k).nk == (14 : Int)) with hc12 | hc12
                          · exact rr_11 hA HK hN hc0 hc1 hc2 hc3 hc4 hc5 hc6 hc7 hc8 hc9 hc10 hc11 hc12
                          · rcases Bool.eq_false_or_eq_true ((av k).nk == (16 : Int)) with hc13 | hc13
                            · exact rr_12 hA HK hN hc0 hc1 hc2 hc3 hc4 hc5 hc6 hc7 hc8 hc9 hc10 hc11 hc12 hc13
                            · rcases Bool.eq_false_or_eq_true ((av k).nk == (18 : Int)) with hc14 | hc14
                              · exact rr_13 hA HK hN hc0 hc1 hc2 hc3 hc4 hc5 hc6 hc7 hc8 hc9 hc10 hc11 hc12 hc13 hc14
                              · rcases Bool.eq_false_or_eq_true ((av k).nk == (19 : Int)) with hc15 | hc15
                                · exact rr_14 hA HK hN hc0 hc1 hc2 hc3 hc4 hc5 hc6 hc7 hc8 hc9 hc10 hc11 hc12 hc13 hc14 hc15
                                · rcases Bool.eq_false_or_eq_true ((av k).nk == (25 : Int)) with hc16 | hc16
                                  · exact rr_15 hA HK hN hc0 hc1 hc2 hc3 hc4 hc5 hc6 hc7 hc8 hc9 hc10 hc11 hc12 hc13 hc14 hc15 hc16
                                  · rcases Bool.eq_false_or_eq_true ((av k).nk == (27 : Int)) with hc17 | hc17
                                    · exact rr_16 hA HK hN hc0 hc1 hc2 hc3 hc4 hc5 hc6 hc7 hc8 hc9 hc10 hc11 hc12 hc13 hc14 hc15 hc16 hc17
                                    · rcases Bool.eq_false_or_eq_true ((av k).nk == (29 : Int)) with hc18 | hc18
                                      · exact rr_17 hA HK hN hc0 hc1 hc2 hc3 hc4 hc5 hc6 hc7 hc8 hc9 hc10 hc11 hc12 hc13 hc14 hc15 hc16 hc17 hc18
                                      · rcases Bool.eq_false_or_eq_true ((av k).nk == (6 : Int)) with hc19 | hc19
                                        · exact rr_18 hA HK hN hc0 hc1 hc2 hc3 hc4 hc5 hc6 hc7 hc8 hc9 hc10 hc11 hc12 hc13 hc14 hc15 hc16 hc17 hc18 hc19
                                        · rcases Bool.eq_false_or_eq_true ((av k).nk == (8 : Int)) with hc20 | hc20
                                          · exact rr_19 hA HK hN hc0 hc1 hc2 hc3 hc4 hc5 hc6 hc7 hc8 hc9 hc10 hc11 hc12 hc13 hc14 hc15 hc16 hc17 hc18 hc19 hc20
                                          · rcases Bool.eq_false_or_eq_true ((av k).nk == (9 : Int)) with hc21 | hc21
                                            · exact rr_20 hA HK hN hc0 hc1 hc2 hc3 hc4 hc5 hc6 hc7 hc8 hc9 hc10 hc11 hc12 hc13 hc14 hc15 hc16 hc17 hc18 hc19 hc20 hc21
                                            · exact rr_21 hA HK hN hc0 hc1 hc2 hc3 hc4 hc5 hc6 hc7 hc8 hc9 hc10 hc11 hc12 hc13 hc14 hc15 hc16 hc17 hc18 hc19 hc20 hc21
                      · rcases Bool.eq_false_or_eq_true ((av k).nk == (6 : Int)) with hc11 | hc11
                        · exact rr_22 hA HK hN hc0 hc1 hc2 hc3 hc4 hc5 hc6 hc7 hc8 hc9 hc10 hc11
                        · rcases Bool.eq_false_or_eq_true ((av k).nk == (8 : Int)) with hc12 | hc12
                          · exact rr_23 hA HK hN hc0 hc1 hc2 hc3 hc4 hc5 hc6 hc7 hc8 hc9 hc10 hc11 hc12
                          · rcases Bool.eq_false_or_eq_true ((av k).nk == (9 : Int)) with hc13 | hc13
                            · exact rr_24 hA HK hN hc0 hc1 hc2 hc3 hc4 hc5 hc6 hc7 hc8 hc9 hc10 hc11 hc12 hc13
                            · rcases Bool.eq_false_or_eq_true ((av k).nk == (18 : Int)) with hc14 | hc14
                              · exact rr_25 hA HK hN hc0 hc1 hc2 hc3 hc4 hc5 hc6 hc7 hc8 hc9 hc10 hc11 hc12 hc13 hc14
                              · rcases Bool.eq_false_or_eq_true ((av k).nk == (19 : Int)) with hc15 | hc15
                                · exact rr_26 hA HK hN hc0 hc1 hc2 hc3 hc4 hc5 hc6 hc7 hc8 hc9 hc10 hc11 hc12 hc13 hc14 hc15
                                · exact rr_27 hA HK hN hc0 hc1 hc2 hc3 hc4 hc5 hc6 hc7 hc8 hc9 hc10 hc11 hc12 hc13 hc14 hc15
      · exact rr_28 hA HK hN hc0 hc1 hc2
    · rcases Bool.eq_false_or_eq_true ((av k).kd == (1 : Int)) with hc2 | hc2
      · rcases Bool.eq_false_or_eq_true (decide (ph ≥ (1 : Int))) with hc3 | hc3
        · rcases Bool.eq_false_or_eq_true (!decide (ph ≤ (5 : Int))) with hc4 | hc4
          · exact rr_29 hA HK hN hc0 hc1 hc2 hc3 hc4
          · rcases Bool.eq_false_or_eq_true (decide (IntKind.wrap IntKind.i64 (he + (1 : Int)) ≥ (90 : Int))) with hc5 | hc5
            · exact rr_30 hA HK hN hc0 hc1 hc2 hc3 hc4 hc5
            · rcases Bool.eq_false_or_eq_true (decide (IntKind.wrap IntKind.i64 (sa + (1 : Int)) ≥ (30 : Int))) with hc6 | hc6
              · rcases Bool.eq_false_or_eq_true (ph == (5 : Int)) with hc7 | hc7
                · exact rr_31 hA HK hN hc0 hc1 hc2 hc3 hc4 hc5 hc6 hc7
                · exact rr_32 hA HK hN hc0 hc1 hc2 hc3 hc4 hc5 hc6 hc7
              · exact rr_33 hA HK hN hc0 hc1 hc2 hc3 hc4 hc5 hc6
        · exact rr_34 hA HK hN hc0 hc1 hc2 hc3
      · rcases Bool.eq_false_or_eq_true ((av k).kd == (2 : Int)) with hc3 | hc3
        · rcases Bool.eq_false_or_eq_true (decide (ph ≥ (1 : Int))) with hc4 | hc4
          · rcases Bool.eq_false_or_eq_true (!decide (ph ≤ (5 : Int))) with hc5 | hc5
            · exact rr_35 hA HK hN hc0 hc1 hc2 hc3 hc4 hc5
            · exact rr_36 hA HK hN hc0 hc1 hc2 hc3 hc4 hc5
          · exact rr_37 hA HK hN hc0 hc1 hc2 hc3 hc4
        · rcases Bool.eq_false_or_eq_true (decide (ph ≥ (1 : Int))) with hc4 | hc4
          · rcases Bool.eq_false_or_eq_true (decide (ph ≤ (5 : Int))) with hc5 | hc5
            · exact rr_38 hA HK hN hc0 hc1 hc2 hc3 hc4 hc5
            · exact rr_39 hA HK hN hc0 hc1 hc2 hc3 hc4 hc5
          · exact rr_40 hA HK hN hc0 hc1 hc2 hc3 hc4
theorem runs_no {ph st tm ct he sa cd : Int} {n pw : ByteArray} {A : Option Addr} {L C : Nat} {k : Nat} {w0 w : World} {a : Act} {M : Act → World → Prop} {Q : Exit → Act → World → Prop} (hA : AtM Tryd.prog 64 16 110 (E0 A L C) (rLive (k : Int)) (heapL (rTri ph n pw st tm ct he sa cd)) w0 a w) (hc0 : (decide ((k : Int) < (L : Int))) = false)
    (hE : ∀ a' w', AtM Tryd.prog 64 16 110 (E0 A L C) [] .leaf w0 a' w' → Q (.exit 0) a' w') : wpMid Tryd.prog [true] (.seq runsR .skip) M Q a w := by
  have klen : ∀ Fr, Fr = protX w0 (E0 A L C) → _ := fun Fr hF => hF ▸ know_len A L C (E0 A L C) rfl w0
  exact wp_segB (P := Tryd.prog) (st := false) (K := KP) mixed KP_ok (G := 64) (X := 16) (cf := 100000) (n := 60) (N := 110) (ext := (E0 A L C)) (x := Ex.exit 0) (out := []) (vs := []) (tri := []) (ora := [(0, Ora.val (Value.int IntKind.i64 (L : Int))), (1, oc)]) (fun Fr => by kernel_rfl) (fun Fr hF => all_cons (klen Fr hF) (all_cons hc0 (all_nil))) (by kernel_rfl) E0_in E0_side hA (fun a' w' h => hE a' w' (h.cast (by kernel_rfl) (by kernel_rfl)))
theorem runs_post {A : Option Addr} {L C : Nat} {w0 w : World} {a : Act} (hA : AtM Tryd.prog 64 16 110 (E0 A L C) [] .leaf w0 a w) : runsP.wp Tryd.prog (bodyPost Tryd.prog Tryd.f5 fun e w' => e = .returned (.bool true) ∧ Below w0.heap.size w0 w') a w := by
  refine wp_wholeQ ?_
  exact wp_segB (P := Tryd.prog) (st := false) (K := KP) mixed KP_ok (G := 64) (X := 16) (cf := 100000) (n := 60) (N := 110) (ext := (E0 A L C)) (x := Ex.ret) (out := [6]) (vs := [Value.bool true]) (tri := []) (ora := []) (fun Fr => by kernel_rfl) (fun Fr hF => all_nil) (by kernel_rfl) E0_in E0_side hA (fun a' w' h => (show bodyPost Tryd.prog Tryd.f5 (fun e w' => e = .returned (.bool true) ∧ Below w0.heap.size w0 w') .ret a' w' from h.ret (i := 6) (v := .bool true) rfl (by kernel_rfl) rfl fun w2 hb => ⟨rfl, hb⟩))
theorem runs_pre11 {n pw : ByteArray} {st tm ct code : Int} {A : Option Addr} {L C : Nat} {wt : Nat → Int} {w : World} {a : Act} {M : Act → World → Prop} (hA : Hid (AtM Tryd.prog 64 16 110 (E0 A L C) [(0, .agg #[.string n, .string pw, .int .i64 st, .int .i64 tm, .int .i64 ct]), (1, .chan (some 64)), (2, .int .i64 code)] .leaf w a w)) (HP : (decide (IntKind.wrap IntKind.i64 ((↑(ByteArray.size n) : Int) + (↑(ByteArray.size pw) : Int)) > (12000 : Int))) = false → Hid (KnP w A L C n pw code wt true true)) (hN : Hid ((decide (IntKind.wrap IntKind.i64 ((↑(ByteArray.size n) : Int) + (↑(ByteArray.size pw) : Int)) > (12000 : Int))) = false → smallV wt L = true → ∀ ph n' pw' st' tm' ct' a' w', n'.size ≤ n.size → pw'.size ≤ pw.size → AtM Tryd.prog 64 16 110 (E0 A L C) (rLive 0) (heapL (rTri ph n' pw' st' tm' ct' 0 0 0)) w a' w' → M a' w')) : wpMid Tryd.prog [true, true, true, true, true, false, true] runsC M (bodyPost Tryd.prog Tryd.f5 fun e w' => e = .returned (.bool true) ∧ Below w.heap.size w w') a w := by
  rcases Bool.eq_false_or_eq_true (decide (IntKind.wrap IntKind.i64 ((↑(ByteArray.size n) : Int) + (↑(ByteArray.size pw) : Int)) > (12000 : Int))) with hc0 | hc0
  · exact rp_1 hA HP hN hc0
  · rcases Bool.eq_false_or_eq_true (!(smallV wt L)) with hc1 | hc1
    · exact rp_2 hA HP hN hc0 hc1
    · rcases Bool.eq_false_or_eq_true (!ByteArray.toList pw == ByteArray.toList (ByteArray.mk #[])) with hc2 | hc2
      · rcases Bool.eq_false_or_eq_true (decide ((↑(ByteArray.size pw) : Int) ≤ (16 : Int))) with hc3 | hc3
        · rcases Bool.eq_false_or_eq_true (decide (st ≥ (0 : Int))) with hc4 | hc4
          · rcases Bool.eq_false_or_eq_true (!decide (st ≤ (65535 : Int))) with hc5 | hc5
            · exact rp_3 hA HP hN hc0 hc1 hc2 hc3 hc4 hc5
            · rcases Bool.eq_false_or_eq_true (decide (ct ≥ (0 : Int))) with hc6 | hc6
              · rcases Bool.eq_false_or_eq_true (!decide (ct ≤ (65535 : Int))) with hc7 | hc7
                · exact rp_4 hA HP hN hc0 hc1 hc2 hc3 hc4 hc5 hc6 hc7
                · rcases Bool.eq_false_or_eq_true (decide (tm < (0 : Int))) with hc8 | hc8
                  · exact rp_5 hA HP hN hc0 hc1 hc2 hc3 hc4 hc5 hc6 hc7 hc8
                  · rcases Bool.eq_false_or_eq_true (decide (tm > (4294967295 : Int))) with hc9 | hc9
                    · exact rp_6 hA HP hN hc0 hc1 hc2 hc3 hc4 hc5 hc6 hc7 hc8 hc9
                    · exact rp_7 hA HP hN hc0 hc1 hc2 hc3 hc4 hc5 hc6 hc7 hc8 hc9
              · exact rp_8 hA HP hN hc0 hc1 hc2 hc3 hc4 hc5 hc6
          · exact rp_9 hA HP hN hc0 hc1 hc2 hc3 hc4
        · exact rp_10 hA HP hN hc0 hc1 hc2 hc3
      · exact rp_11 hA HP hN hc0 hc1 hc2
theorem runs_pre10 {n pw : ByteArray} {st tm ct code : Int} {A : Option Addr} {L C : Nat} {wt : Nat → Int} {w : World} {a : Act} {M : Act → World → Prop} (hA : Hid (AtM Tryd.prog 64 16 110 (E0 A L C) [(0, .agg #[.string n, .string pw, .int .i64 st, .int .i64 tm, .int .i64 ct]), (1, .chan (some 64)), (2, .int .i64 code)] .leaf w a w)) (HP : (decide (IntKind.wrap IntKind.i64 ((↑(ByteArray.size n) : Int) + (↑(ByteArray.size pw) : Int)) > (12000 : Int))) = false → Hid (KnP w A L C n pw code wt true false)) (hN : Hid ((decide (IntKind.wrap IntKind.i64 ((↑(ByteArray.size n) : Int) + (↑(ByteArray.size pw) : Int)) > (12000 : Int))) = false → smallV wt L = true → ∀ ph n' pw' st' tm' ct' a' w', n'.size ≤ n.size → pw'.size ≤ pw.size → AtM Tryd.prog 64 16 110 (E0 A L C) (rLive 0) (heapL (rTri ph n' pw' st' tm' ct' 0 0 0)) w a' w' → M a' w')) : wpMid Tryd.prog [true, true, true, true, true, false, true] runsC M (bodyPost Tryd.prog Tryd.f5 fun e w' => e = .returned (.bool true) ∧ Below w.heap.size w w') a w := by
  rcases Bool.eq_false_or_eq_true (decide (IntKind.wrap IntKind.i64 ((↑(ByteArray.size n) : Int) + (↑(ByteArray.size pw) : Int)) > (12000 : Int))) with hc0 | hc0
  · exact rp_12 hA HP hN hc0
  · rcases Bool.eq_false_or_eq_true (!(smallV wt L)) with hc1 | hc1
    · exact rp_13 hA HP hN hc0 hc1
    · rcases Bool.eq_false_or_eq_true (!ByteArray.toList pw == ByteArray.toList (ByteArray.mk #[])) with hc2 | hc2
      · rcases Bool.eq_false_or_eq_true (decide ((↑(ByteArray.size pw) : Int) ≤ (16 : Int))) with hc3 | hc3
        · exact rp_14 hA HP hN hc0 hc1 hc2 hc3
        · exact rp_15 hA HP hN hc0 hc1 hc2 hc3
      · exact rp_16 hA HP hN hc0 hc1 hc2
theorem runs_pre01 {n pw : ByteArray} {st tm ct code : Int} {A : Option Addr} {L C : Nat} {wt : Nat → Int} {w : World} {a : Act} {M : Act → World → Prop} (hA : Hid (AtM Tryd.prog 64 16 110 (E0 A L C) [(0, .agg #[.string n, .string pw, .int .i64 st, .int .i64 tm, .int .i64 ct]), (1, .chan (some 64)), (2, .int .i64 code)] .leaf w a w)) (HP : (decide (IntKind.wrap IntKind.i64 ((↑(ByteArray.size n) : Int) + (↑(ByteArray.size pw) : Int)) > (12000 : Int))) = false → Hid (KnP w A L C n pw code wt false true)) (hN : Hid ((decide (IntKind.wrap IntKind.i64 ((↑(ByteArray.size n) : Int) + (↑(ByteArray.size pw) : Int)) > (12000 : Int))) = false → smallV wt L = true → ∀ ph n' pw' st' tm' ct' a' w', n'.size ≤ n.size → pw'.size ≤ pw.size → AtM Tryd.prog 64 16 110 (E0 A L C) (rLive 0) (heapL (rTri ph n' pw' st' tm' ct' 0 0 0)) w a' w' → M a' w')) : wpMid Tryd.prog [true, true, true, true, true, false, true] runsC M (bodyPost Tryd.prog Tryd.f5 fun e w' => e = .returned (.bool true) ∧ Below w.heap.size w w') a w := by
  rcases Bool.eq_false_or_eq_true (decide (IntKind.wrap IntKind.i64 ((↑(ByteArray.size n) : Int) + (↑(ByteArray.size pw) : Int)) > (12000 : Int))) with hc0 | hc0
  · exact rp_17 hA HP hN hc0
  · rcases Bool.eq_false_or_eq_true (!(smallV wt L)) with hc1 | hc1
    · exact rp_18 hA HP hN hc0 hc1
    · rcases Bool.eq_false_or_eq_true (!ByteArray.toList pw == ByteArray.toList (ByteArray.mk #[])) with hc2 | hc2
      · rcases Bool.eq_false_or_eq_true (decide ((↑(ByteArray.size pw) : Int) ≤ (16 : Int))) with hc3 | hc3
        · exact rp_19 hA HP hN hc0 hc1 hc2 hc3
        · exact rp_20 hA HP hN hc0 hc1 hc2 hc3
      · exact rp_21 hA HP hN hc0 hc1 hc2
theorem runs_pre00 {n pw : ByteArray} {st tm ct code : Int} {A : Option Addr} {L C : Nat} {wt : Nat → Int} {w : World} {a : Act} {M : Act → World → Prop} (hA : Hid (AtM Tryd.prog 64 16 110 (E0 A L C) [(0, .agg #[.string n, .string pw, .int .i64 st, .int .i64 tm, .int .i64 ct]), (1, .chan (some 64)), (2, .int .i64 code)] .leaf w a w)) (HP : (decide (IntKind.wrap IntKind.i64 ((↑(ByteArray.size n) : Int) + (↑(ByteArray.size pw) : Int)) > (12000 : Int))) = false → Hid (KnP w A L C n pw code wt false false)) (hN : Hid ((decide (IntKind.wrap IntKind.i64 ((↑(ByteArray.size n) : Int) + (↑(ByteArray.size pw) : Int)) > (12000 : Int))) = false → smallV wt L = true → ∀ ph n' pw' st' tm' ct' a' w', n'.size ≤ n.size → pw'.size ≤ pw.size → AtM Tryd.prog 64 16 110 (E0 A L C) (rLive 0) (heapL (rTri ph n' pw' st' tm' ct' 0 0 0)) w a' w' → M a' w')) : wpMid Tryd.prog [true, true, true, true, true, false, true] runsC M (bodyPost Tryd.prog Tryd.f5 fun e w' => e = .returned (.bool true) ∧ Below w.heap.size w w') a w := by
  rcases Bool.eq_false_or_eq_true (decide (IntKind.wrap IntKind.i64 ((↑(ByteArray.size n) : Int) + (↑(ByteArray.size pw) : Int)) > (12000 : Int))) with hc0 | hc0
  · exact rp_22 hA HP hN hc0
  · rcases Bool.eq_false_or_eq_true (!(smallV wt L)) with hc1 | hc1
    · exact rp_23 hA HP hN hc0 hc1
    · rcases Bool.eq_false_or_eq_true (!ByteArray.toList pw == ByteArray.toList (ByteArray.mk #[])) with hc2 | hc2
      · rcases Bool.eq_false_or_eq_true (decide ((↑(ByteArray.size pw) : Int) ≤ (16 : Int))) with hc3 | hc3
        · exact rp_24 hA HP hN hc0 hc1 hc2 hc3
        · exact rp_25 hA HP hN hc0 hc1 hc2 hc3
      · exact rp_26 hA HP hN hc0 hc1 hc2
theorem SessionRuns_walk (n pw : ByteArray) (st tm ct : Int) (A : Option Addr) (L C : Nat) (av : Nat → ActV) (code : Int) (w : World) (q1 : n.size ≤ 140737488351232) (q2 : pw.size ≤ 140737488351232) (hA : Acts w A L av) (hL : L ≤ RB) (_hcode : (Lit.int .i64 code).wf = true) :
    Calls Tryd.prog 5 #[.agg #[.string n, .string pw, .int .i64 st, .int .i64 tm, .int .i64 ct], .slice A L C, .int .i64 code] w fun e w' => e = .returned (.bool true) ∧ Below w.heap.size w w' := by
  unfold RB at hL
  obtain ⟨wt, hw⟩ := hA.wts
  have b0 : (decide (IntKind.wrap IntKind.i64 ((↑(ByteArray.size n) : Int) + (↑(ByteArray.size pw) : Int)) > (12000 : Int))) = false → n.size ≤ 12000 ∧ pw.size ≤ 12000 := fun h => by
    have h := of_decide_eq_false h
    rw [IntWalk.i64_in _ (by omega)] at h
    omega
  have HP : ∀ bn bt, HanP.isName n.data.toList = bn → GlyP.isText pw.data.toList = bt → (decide (IntKind.wrap IntKind.i64 ((↑(ByteArray.size n) : Int) + (↑(ByteArray.size pw) : Int)) > (12000 : Int))) = false → Hid (KnP w A L C n pw code wt bn bt) := fun bn bt en et x => by
    obtain ⟨z1, z2⟩ := b0 x
    refine Lib.hid ⟨fun Fr hF => ?_, fun Fr => ?_, fun Fr => ?_, fun Fr => ?_, fun Fr nm => signs_new pw (by omega) Fr nm bt et, fun Fr => pureC_of (Lasting_any code) rfl (by rfl) Fr, fun Fr => pureC_of (RLasting_any code) rfl (by rfl) Fr⟩
    · subst hF
      exact pureX (fun w' hw' => small_any A L C av wt w' (hA.same hw') ⟨hw.ge, hw.le, fun i hi w2 h2 => hw.call i hi w2 fun b hb => (h2 b (size_same hw' hb)).trans (hw' b hb)⟩ hL) rfl (by rfl)
    · cases bn with
      | true => exact pureC_of (check_yes n (by omega) en) rfl (by rfl) Fr
      | false => exact pureC_of (check_no n (by omega) en) rfl (by rfl) Fr
    · cases bt with
      | true => exact pureC_of (text_yes pw (by omega) et) rfl (by rfl) Fr
      | false => exact pureC_of (text_no pw (by omega) et) rfl (by rfl) Fr
    · exact pureC_of (fun w => F.wharfref04_Is.calls n _ w (by unfold F.wharfref04_Is.f F.hm; rw [if_pos (by omega), en])) rfl (by rfl) Fr
  refine calls_of_wp Tryd.func5 runsB ?_
  refine wp_mid [true, true, true, true, true, false, true] _ _ _ _ ?_
  rw [runsM, runsPo]
  have begins : ∀ {M : Act → World → Prop} {a : Act}, AtM Tryd.prog 64 16 110 (E0 A L C) [(0, .agg #[.string n, .string pw, .int .i64 st, .int .i64 tm, .int .i64 ct]), (1, .chan (some 64)), (2, .int .i64 code)] .leaf w a w → ((decide (IntKind.wrap IntKind.i64 ((↑(ByteArray.size n) : Int) + (↑(ByteArray.size pw) : Int)) > (12000 : Int))) = false → smallV wt L = true → ∀ ph n' pw' st' tm' ct' a' w', n'.size ≤ n.size → pw'.size ≤ pw.size → AtM Tryd.prog 64 16 110 (E0 A L C) (rLive 0) (heapL (rTri ph n' pw' st' tm' ct' 0 0 0)) w a' w' → M a' w') → wpMid Tryd.prog [true, true, true, true, true, false, true] runsC M (bodyPost Tryd.prog Tryd.f5 fun e w' => e = .returned (.bool true) ∧ Below w.heap.size w w') a w := fun h hN => by
    cases en : HanP.isName n.data.toList with
    | true => cases et : GlyP.isText pw.data.toList with
      | true => exact runs_pre11 (Lib.hid h) (HP true true en et) (Lib.hid hN)
      | false => exact runs_pre10 (Lib.hid h) (HP true false en et) (Lib.hid hN)
    | false => cases et : GlyP.isText pw.data.toList with
      | true => exact runs_pre01 (Lib.hid h) (HP false true en et) (Lib.hid hN)
      | false => exact runs_pre00 (Lib.hid h) (HP false false en et) (Lib.hid hN)
  refine begins (AtM.start E0_in E0_side (by kernel_rfl) (by kernel_rfl) rfl (fun q hq => by simp only [List.mem_cons, List.not_mem_nil, or_false] at hq; rcases hq with rfl | rfl | rfl <;> kernel_rfl)) fun g0 g1 ph0 n0 pw0 st0 tm0 ct0 a0 w0 y1 y2 h0 => ?_
  have hsm := small_each hw g1
  obtain ⟨zn, zp⟩ := b0 g0
  have zn : n0.size ≤ 12000 := by omega
  have zp : pw0.size ≤ 12000 := by omega
  obtain ⟨I, hI⟩ : ∃ I : Act → World → Prop, I = fun a x => ∃ (k : Nat) (ph he sa cd : Int), k ≤ L ∧ AtM Tryd.prog 64 16 110 (E0 A L C) (rLive (k : Int)) (heapL (rTri ph n0 pw0 st0 tm0 ct0 he sa cd)) w a x := ⟨_, rfl⟩
  refine wp_block (wp_loop I (fun a _ => L - (match a.tmps.getD 13 undef with | .int _ n => n.toNat | _ => 0)) ?_ ?_)
  · rw [hI]
    exact ⟨0, ph0, 0, 0, 0, by omega, h0⟩
  · intro a1 w1 h1
    rw [hI] at h1
    obtain ⟨k, ph, he, sa, cd, hk, hM⟩ := h1
    have hv := hM.val (i := 13) (v := .int .i64 (k : Int)) (by kernel_rfl) rfl
    refine wp_whole ?_
    by_cases hkL : k < L
    · obtain ⟨ad, rfl, ha⟩ := hA k hkL
      obtain ⟨za, zb⟩ := hsm k hkL
      obtain ⟨D, hD, HK⟩ := knows (C := C) (n := n0) (pw := pw0) hkL ha (by omega) (by omega) (by omega) (by omega)
      refine runs_round (Lib.hid (hM.swap (ext' := EX (some ad) L C ad k (av k)) (m := 64) E0_in EX_in E0_side EX_side ⟨_, rfl, rfl⟩ (by kernel_rfl))) (Lib.hid HK) (Lib.hid fun ph' he' sa' cd' a2 w2 h2 => ?_) (decide_eq_true (by omega))
      have h2' := h2.swap (ext' := E0 (some ad) L C) (m := 64) EX_in E0_in EX_side E0_side ⟨_, rfl, rfl⟩ (by kernel_rfl)
      rw [IntWalk.i64_in _ (by omega)] at h2'
      have hv2 := h2'.val (i := 13) (v := .int .i64 ((k : Int) + 1)) (by kernel_rfl) rfl
      refine ⟨?_, ?_⟩
      · rw [hI]
        exact ⟨k + 1, ph', he', sa', cd', by omega, h2'⟩
      · rw [hv, hv2]
        simp only
        omega
    · refine runs_no hM (decide_eq_false (by omega)) (fun a2 w2 h2 => ?_)
      exact inBlock_exit (runs_post h2)
end Go.Proofs.YtpjkbamkaicoiaaDoor.Ses
end
