/- Contracts of functions of this translation, and what they come to; what is not used is left out. -/
import Derived.Test.YtofdiilfedjhkaaDoorKg3
import Derived.Test.YtofdiilfedjhkaaDoorKSubV2
import Derived.Test.YtofdiilfedjhkaaDoorKSubV1
import Derived.Test.YtofdiilfedjhkaaDoorKHanA
import Derived.Test.YtofdiilfedjhkaaDoorKGlyA
import Derived.Test.YtofdiilfedjhkaaDoorKGlyP
import Derived.Test.YtofdiilfedjhkaaDoorKUtil
import Derived.Test.YtofdiilfedjhkaaDoorKRep
import Derived.Test.YtofdiilfedjhkaaDoorKStrs
import Derived.Test.YtofdiilfedjhkaaDoorKShelf
import Derived.Test.YtofdiilfedjhkaaDoorKBld
import Derived.Test.YtofdiilfedjhkaaDoorKSubV0
import Derived.Test.YtofdiilfedjhkaaDoorKg7p1
import Derived.Test.YtofdiilfedjhkaaDoorKg7p0
import Derived.Test.YtofdiilfedjhkaaDoorKg4
import Derived.Test.YtofdiilfedjhkaaDoorKg6
import Derived.Test.YtofdiilfedjhkaaDoorKBox
import Derived.Test.YtofdiilfedjhkaaDoorKCls
import Derived.Test.YtofdiilfedjhkaaDoorKg5
import Derived.Test.YtofdiilfedjhkaaDoorKg2
import Derived.Test.YtofdiilfedjhkaaDoorKg1
import Derived.Test.YtofdiilfedjhkaaDoorKg0

section
/- The law SubsSeen, walked whole. (Printed by gen_subv.py.) -/
set_option linter.unusedVariables false
set_option linter.unusedSimpArgs false
set_option maxRecDepth 100000
namespace Go.Proofs.YtofdiilfedjhkaaDoor.SubW
open Go.RowKit Go.Proofs.YtofdiilfedjhkaaDoor.E Go.Proofs.YtofdiilfedjhkaaDoor.Ses
theorem seen_round {n : ByteArray} {tO pe aw fr as_ on : Bool} {st id : Int} {A : Option Addr} {L C : Nat} {ad : Addr} {k : Nat} {av : Nat → ActV} {w0 w : World} {a : Act} {M : Act → World → Prop} {Q : Exit → Act → World → Prop} (hA : Hid (AtM Tryd.prog 64 16 161 (EX A L C ad k (av k)) (oLive (k : Int)) (heapL (oTri n tO pe aw fr as_ on st id)) w0 a w)) (HK : Hid (KnR w0 A L C ad k av n)) (hN : Hid (∀ tO' pe' aw' fr' as' on' st' id' a' w', AtM Tryd.prog 64 16 161 (EX A L C ad k (av k)) (oLive (IntKind.wrap IntKind.i64 ((k : Int) + 1))) (heapL (oTri n tO' pe' aw' fr' as' on' st' id')) w0 a' w' → M a' w')) (hc0 : (decide ((k : Int) < (L : Int))) = true) : wpMid Tryd.prog [true] (.seq seenR .skip) M Q a w := by
    rcases Bool.eq_false_or_eq_true ((av k).kd == (0 : Int)) with hc1 | hc1
    · rcases Bool.eq_false_or_eq_true (ByteArray.toList (av k).sS == ByteArray.toList (ByteArray.mk #[115, 117, 98, 115, 99, 114, 105, 98, 101])) with hc2 | hc2
      · rcases Bool.eq_false_or_eq_true (tO) with hc3 | hc3
        · rcases Bool.eq_false_or_eq_true (on) with hc4 | hc4
          · exact or_1 hA HK hN hc0 hc1 hc2 hc3 hc4
          · exact or_2 hA HK hN hc0 hc1 hc2 hc3 hc4
        · exact or_3 hA HK hN hc0 hc1 hc2 hc3
      · rcases Bool.eq_false_or_eq_true (ByteArray.toList (av k).sS == ByteArray.toList (ByteArray.mk #[117, 110, 115, 117, 98, 115, 99, 114, 105, 98, 101])) with hc3 | hc3
        · rcases Bool.eq_false_or_eq_true (tO) with hc4 | hc4
          · exact or_4 hA HK hN hc0 hc1 hc2 hc3 hc4
          · rcases Bool.eq_false_or_eq_true (aw) with hc5 | hc5
            · exact or_5 hA HK hN hc0 hc1 hc2 hc3 hc4 hc5
            · rcases Bool.eq_false_or_eq_true (pe) with hc6 | hc6
              · exact or_6 hA HK hN hc0 hc1 hc2 hc3 hc4 hc5 hc6
              · exact or_7 hA HK hN hc0 hc1 hc2 hc3 hc4 hc5 hc6
        · rcases Bool.eq_false_or_eq_true (ByteArray.toList (av k).sS == ByteArray.toList (ByteArray.mk #[115, 117, 98, 115, 99, 114, 105, 98, 101, 100])) with hc4 | hc4
          · rcases Bool.eq_false_or_eq_true (!as_) with hc5 | hc5
            · rcases Bool.eq_false_or_eq_true (tO) with hc6 | hc6
              · exact or_8 hA HK hN hc0 hc1 hc2 hc3 hc4 hc5 hc6
              · exact or_9 hA HK hN hc0 hc1 hc2 hc3 hc4 hc5 hc6
            · rcases Bool.eq_false_or_eq_true (tO) with hc7 | hc7
              · exact or_10 hA HK hN hc0 hc1 hc2 hc3 hc4 hc5 hc7
              · exact or_11 hA HK hN hc0 hc1 hc2 hc3 hc4 hc5 hc7
          · rcases Bool.eq_false_or_eq_true (ByteArray.toList (av k).sS == ByteArray.toList (ByteArray.mk #[117, 110, 115, 117, 98, 115, 99, 114, 105, 98, 101, 100])) with hc5 | hc5
            · rcases Bool.eq_false_or_eq_true (as_) with hc6 | hc6
              · rcases Bool.eq_false_or_eq_true (tO) with hc7 | hc7
                · exact or_12 hA HK hN hc0 hc1 hc2 hc3 hc4 hc5 hc6 hc7
                · exact or_13 hA HK hN hc0 hc1 hc2 hc3 hc4 hc5 hc6 hc7
              · rcases Bool.eq_false_or_eq_true (tO) with hc7 | hc7
                · exact or_14 hA HK hN hc0 hc1 hc2 hc3 hc4 hc5 hc6 hc7
                · exact or_15 hA HK hN hc0 hc1 hc2 hc3 hc4 hc5 hc6 hc7
            · rcases Bool.eq_false_or_eq_true (tO) with hc6 | hc6
              · exact or_16 hA HK hN hc0 hc1 hc2 hc3 hc4 hc5 hc6
              · exact or_17 hA HK hN hc0 hc1 hc2 hc3 hc4 hc5 hc6
    · rcases Bool.eq_false_or_eq_true ((av k).kd == (1 : Int)) with hc2 | hc2
      · rcases Bool.eq_false_or_eq_true (!ByteArray.toList (Han.normB n) == ByteArray.toList (Han.normB (av k).nn)) with hc3 | hc3
        · rcases Bool.eq_false_or_eq_true (tO) with hc4 | hc4
          · exact or_18 hA HK hN hc0 hc1 hc2 hc3 hc4
          · exact or_19 hA HK hN hc0 hc1 hc2 hc3 hc4
        · rcases Bool.eq_false_or_eq_true ((av k).nk == (13 : Int)) with hc4 | hc4
          · rcases Bool.eq_false_or_eq_true (tO) with hc5 | hc5
            · exact or_20 hA HK hN hc0 hc1 hc2 hc3 hc4 hc5
            · exact or_21 hA HK hN hc0 hc1 hc2 hc3 hc4 hc5
          · rcases Bool.eq_false_or_eq_true ((av k).nk == (14 : Int)) with hc5 | hc5
            · rcases Bool.eq_false_or_eq_true (!on) with hc6 | hc6
              · rcases Bool.eq_false_or_eq_true (tO) with hc7 | hc7
                · exact or_22 hA HK hN hc0 hc1 hc2 hc3 hc4 hc5 hc6 hc7
                · exact or_23 hA HK hN hc0 hc1 hc2 hc3 hc4 hc5 hc6 hc7
              · rcases Bool.eq_false_or_eq_true (tO) with hc7 | hc7
                · exact or_24 hA HK hN hc0 hc1 hc2 hc3 hc4 hc5 hc6 hc7
                · exact or_25 hA HK hN hc0 hc1 hc2 hc3 hc4 hc5 hc6 hc7
            · rcases Bool.eq_false_or_eq_true ((av k).nk == (29 : Int)) with hc6 | hc6
              · rcases Bool.eq_false_or_eq_true (aw) with hc7 | hc7
                · rcases Bool.eq_false_or_eq_true ((av k).nok) with hc8 | hc8
                  · rcases Bool.eq_false_or_eq_true (on) with hc9 | hc9
                    · rcases Bool.eq_false_or_eq_true (!tO) with hc11 | hc11
                      · exact or_26 hA HK hN hc0 hc1 hc2 hc3 hc4 hc5 hc6 hc7 hc8 hc9 hc11
                      · exact or_27 hA HK hN hc0 hc1 hc2 hc3 hc4 hc5 hc6 hc7 hc8 hc9 hc11
                    · rcases Bool.eq_false_or_eq_true (!tO) with hc10 | hc10
                      · exact or_28 hA HK hN hc0 hc1 hc2 hc3 hc4 hc5 hc6 hc7 hc8 hc9 hc10
                      · exact or_29 hA HK hN hc0 hc1 hc2 hc3 hc4 hc5 hc6 hc7 hc8 hc9 hc10
                  · rcases Bool.eq_false_or_eq_true (tO) with hc9 | hc9
                    · exact or_30 hA HK hN hc0 hc1 hc2 hc3 hc4 hc5 hc6 hc7 hc8 hc9
                    · exact or_31 hA HK hN hc0 hc1 hc2 hc3 hc4 hc5 hc6 hc7 hc8 hc9
                · rcases Bool.eq_false_or_eq_true (tO) with hc8 | hc8
                  · exact or_32 hA HK hN hc0 hc1 hc2 hc3 hc4 hc5 hc6 hc7 hc8
                  · exact or_33 hA HK hN hc0 hc1 hc2 hc3 hc4 hc5 hc6 hc7 hc8
              · rcases Bool.eq_false_or_eq_true ((av k).nk == (27 : Int)) with hc7 | hc7
                · rcases Bool.eq_false_or_eq_true (fr) with hc8 | hc8
                  · rcases Bool.eq_false_or_eq_true (tO) with hc9 | hc9
                    · exact or_34 hA HK hN hc0 hc1 hc2 hc3 hc4 hc5 hc6 hc7 hc8 hc9
                    · exact or_35 hA HK hN hc0 hc1 hc2 hc3 hc4 hc5 hc6 hc7 hc8 hc9
                  · rcases Bool.eq_false_or_eq_true (tO) with hc9 | hc9
                    · exact or_36 hA HK hN hc0 hc1 hc2 hc3 hc4 hc5 hc6 hc7 hc8 hc9
                    · exact or_37 hA HK hN hc0 hc1 hc2 hc3 hc4 hc5 hc6 hc7 hc8 hc9
                · rcases Bool.eq_false_or_eq_true (tO) with hc8 | hc8
                  · exact or_38 hA HK hN hc0 hc1 hc2 hc3 hc4 hc5 hc6 hc7 hc8
                  · exact or_39 hA HK hN hc0 hc1 hc2 hc3 hc4 hc5 hc6 hc7 hc8
      · rcases Bool.eq_false_or_eq_true ((av k).kd == (2 : Int)) with hc3 | hc3
        · rcases Bool.eq_false_or_eq_true ((av k).wk != (1 : Int)) with hc4 | hc4
          · rcases Bool.eq_false_or_eq_true (tO) with hc5 | hc5
            · exact or_40 hA HK hN hc0 hc1 hc2 hc3 hc4 hc5
            · exact or_41 hA HK hN hc0 hc1 hc2 hc3 hc4 hc5
          · rcases Bool.eq_false_or_eq_true (!pe) with hc5 | hc5
            · rcases Bool.eq_false_or_eq_true (tO) with hc6 | hc6
              · exact or_42 hA HK hN hc0 hc1 hc2 hc3 hc4 hc5 hc6
              · exact or_43 hA HK hN hc0 hc1 hc2 hc3 hc4 hc5 hc6
            · rcases Bool.eq_false_or_eq_true (!ByteArray.toList (Han.normB n) == ByteArray.toList (Han.normB (av k).wn)) with hc6 | hc6
              · rcases Bool.eq_false_or_eq_true (tO) with hc7 | hc7
                · exact or_44 hA HK hN hc0 hc1 hc2 hc3 hc4 hc5 hc6 hc7
                · exact or_45 hA HK hN hc0 hc1 hc2 hc3 hc4 hc5 hc6 hc7
              · rcases Bool.eq_false_or_eq_true ((av k).dc == (14 : Int)) with hc7 | hc7
                · rcases Bool.eq_false_or_eq_true (tO) with hc8 | hc8
                  · exact or_46 hA HK hN hc0 hc1 hc2 hc3 hc4 hc5 hc6 hc7 hc8
                  · exact or_47 hA HK hN hc0 hc1 hc2 hc3 hc4 hc5 hc6 hc7 hc8
                · rcases Bool.eq_false_or_eq_true ((av k).dc == (0 : Int)) with hc8 | hc8
                  · rcases Bool.eq_false_or_eq_true ((av k).wb) with hc9 | hc9
                    · rcases Bool.eq_false_or_eq_true (tO) with hc10 | hc10
                      · exact or_48 hA HK hN hc0 hc1 hc2 hc3 hc4 hc5 hc6 hc7 hc8 hc9 hc10
                      · exact or_49 hA HK hN hc0 hc1 hc2 hc3 hc4 hc5 hc6 hc7 hc8 hc9 hc10
                    · rcases Bool.eq_false_or_eq_true (on) with hc11 | hc11
                      · rcases Bool.eq_false_or_eq_true (!tO) with hc13 | hc13
                        · exact or_50 hA HK hN hc0 hc1 hc2 hc3 hc4 hc5 hc6 hc7 hc8 hc9 hc11 hc13
                        · exact or_51 hA HK hN hc0 hc1 hc2 hc3 hc4 hc5 hc6 hc7 hc8 hc9 hc11 hc13
                      · rcases Bool.eq_false_or_eq_true (!tO) with hc12 | hc12
                        · exact or_52 hA HK hN hc0 hc1 hc2 hc3 hc4 hc5 hc6 hc7 hc8 hc9 hc11 hc12
                        · exact or_53 hA HK hN hc0 hc1 hc2 hc3 hc4 hc5 hc6 hc7 hc8 hc9 hc11 hc12
                  · rcases Bool.eq_false_or_eq_true (tO) with hc10 | hc10
                    · exact or_54 hA HK hN hc0 hc1 hc2 hc3 hc4 hc5 hc6 hc7 hc8 hc10
                    · exact or_55 hA HK hN hc0 hc1 hc2 hc3 hc4 hc5 hc6 hc7 hc8 hc10
        · rcases Bool.eq_false_or_eq_true ((av k).kd == (3 : Int)) with hc4 | hc4
          · rcases Bool.eq_false_or_eq_true (!ByteArray.toList (Han.normB n) == ByteArray.toList (Han.normB (av k).xn)) with hc5 | hc5
            · rcases Bool.eq_false_or_eq_true (tO) with hc6 | hc6
              · exact or_56 hA HK hN hc0 hc1 hc2 hc3 hc4 hc5 hc6
              · exact or_57 hA HK hN hc0 hc1 hc2 hc3 hc4 hc5 hc6
            · rcases Bool.eq_false_or_eq_true ((av k).xb) with hc6 | hc6
              · rcases Bool.eq_false_or_eq_true (tO) with hc7 | hc7
                · exact or_58 hA HK hN hc0 hc1 hc2 hc3 hc4 hc5 hc6 hc7
                · exact or_59 hA HK hN hc0 hc1 hc2 hc3 hc4 hc5 hc6 hc7
              · rcases Bool.eq_false_or_eq_true (!tO) with hc7 | hc7
                · rcases Bool.eq_false_or_eq_true (on) with hc8 | hc8
                  · exact or_60 hA HK hN hc0 hc1 hc2 hc3 hc4 hc5 hc6 hc7 hc8
                  · exact or_61 hA HK hN hc0 hc1 hc2 hc3 hc4 hc5 hc6 hc7 hc8
                · exact or_62 hA HK hN hc0 hc1 hc2 hc3 hc4 hc5 hc6 hc7
          · rcases Bool.eq_false_or_eq_true (!tO) with hc5 | hc5
            · rcases Bool.eq_false_or_eq_true (!aw) with hc6 | hc6
              · exact or_63 hA HK hN hc0 hc1 hc2 hc3 hc4 hc5 hc6
              · exact or_64 hA HK hN hc0 hc1 hc2 hc3 hc4 hc5 hc6
            · exact or_65 hA HK hN hc0 hc1 hc2 hc3 hc4 hc5
theorem seen_no {n : ByteArray} {tO pe aw fr as_ on : Bool} {st id : Int} {A : Option Addr} {L C : Nat} {k : Nat} {w0 w : World} {a : Act} {M : Act → World → Prop} {Q : Exit → Act → World → Prop} (hA : AtM Tryd.prog 64 16 161 (E0 A L C) (oLive (k : Int)) (heapL (oTri n tO pe aw fr as_ on st id)) w0 a w) (hc0 : (decide ((k : Int) < (L : Int))) = false)
    (hE : ∀ a' w', AtM Tryd.prog 64 16 161 (E0 A L C) [] .leaf w0 a' w' → Q (.exit 0) a' w') : wpMid Tryd.prog [true] (.seq seenR .skip) M Q a w := by
  have klen : ∀ Fr, Fr = protX w0 (E0 A L C) → _ := fun Fr hF => hF ▸ know_len A L C (E0 A L C) rfl w0
  exact wp_segB (P := Tryd.prog) (st := false) (K := KP) mixed KP_ok (G := 64) (X := 16) (cf := 100000) (n := 60) (N := 161) (ext := (E0 A L C)) (x := Ex.exit 0) (out := []) (vs := []) (tri := []) (ora := [(0, Ora.val (Value.int IntKind.i64 (L : Int))), (1, oc)]) (fun _ => by kernel_rfl) (fun Fr hF => all_cons (klen Fr hF) (all_cons hc0 (all_nil))) (by kernel_rfl) E0_in E0_side hA (fun a' w' h => hE a' w' (h.cast (by kernel_rfl) (by kernel_rfl)))
theorem seen_post {A : Option Addr} {L C : Nat} {w0 w : World} {a : Act} (hA : AtM Tryd.prog 64 16 161 (E0 A L C) [] .leaf w0 a w) : seenP.wp Tryd.prog (bodyPost Tryd.prog Tryd.f6 fun e w' => e = .returned (.bool true) ∧ Below w0.heap.size w0 w') a w := by
  refine wp_wholeQ ?_
  exact wp_segB (P := Tryd.prog) (st := false) (K := KP) mixed KP_ok (G := 64) (X := 16) (cf := 100000) (n := 60) (N := 161) (ext := (E0 A L C)) (x := Ex.ret) (out := [4]) (vs := [Value.bool true]) (tri := []) (ora := []) (fun _ => by kernel_rfl) (fun Fr hF => all_nil) (by kernel_rfl) E0_in E0_side hA (fun a' w' h => (show bodyPost Tryd.prog Tryd.f6 (fun e w' => e = .returned (.bool true) ∧ Below w0.heap.size w0 w') .ret a' w' from h.ret (i := 4) (v := .bool true) rfl (by kernel_rfl) rfl fun w2 hb => ⟨rfl, hb⟩))
theorem seen_pre {n : ByteArray} {tO pe aw fr as_ on : Bool} {st id : Int} {A : Option Addr} {L C : Nat} {av : Nat → ActV} {w : World} {a : Act} {M : Act → World → Prop} (hA : AtM Tryd.prog 64 16 161 (E0 A L C) [(0, .agg #[.string n, .bool tO, .bool pe, .bool aw, .bool fr, .bool as_, .bool on, .int .i64 st, .int .i64 id]), (1, .chan (some 64))] .leaf w a w) (h15 : ∀ Fr, Fr = protX w (E0 A L C) → PureC Tryd.prog Fr 15 #[.agg #[.string n, .bool tO, .bool pe, .bool aw, .bool fr, .bool as_, .bool on, .int .i64 st, .int .i64 id], .chan (some 64)] (.bool (smallV n av L)))
    (hN : smallV n av L = true → ∀ a' w', AtM Tryd.prog 64 16 161 (E0 A L C) (oLive 0) (heapL (oTri n tO pe aw fr as_ on st id)) w a' w' → M a' w') : wpMid Tryd.prog [true, true, false, true] seenC M (bodyPost Tryd.prog Tryd.f6 fun e w' => e = .returned (.bool true) ∧ Below w.heap.size w w') a w := by
  rcases Bool.eq_false_or_eq_true (!(smallV n av L)) with hc0 | hc0
  · exact wp_segB (P := Tryd.prog) (st := false) (K := KP) mixed KP_ok (G := 64) (X := 16) (cf := 100000) (n := 60) (N := 161) (ext := (E0 A L C)) (x := Ex.ret) (out := [4]) (vs := [Value.bool true]) (tri := []) (ora := [(0, Ora.val (Value.bool (smallV n av L))), (1, ob)]) (fun _ => by kernel_rfl) (fun Fr hF => all_cons (h15 Fr hF) (all_cons hc0 (all_nil))) (by kernel_rfl) E0_in E0_side hA (fun a' w' h => (show bodyPost Tryd.prog Tryd.f6 (fun e w' => e = .returned (.bool true) ∧ Below w.heap.size w w') .ret a' w' from h.ret (i := 4) (v := .bool true) rfl (by kernel_rfl) rfl fun w2 hb => ⟨rfl, hb⟩))
  · exact wp_segB (P := Tryd.prog) (st := false) (K := KP) mixed KP_ok (G := 64) (X := 16) (cf := 100000) (n := 60) (N := 161) (ext := (E0 A L C)) (x := Ex.normal) (out := [1, 2, 5]) (vs := [Value.chan (some 64), Value.pointer (some (Go.Addr.mk 80 0 none)), Value.int IntKind.i64 ((0 : Int))]) (tri := [(80, 72, ⟨[Value.string n, Value.bool tO, Value.bool pe, Value.bool aw, Value.bool fr, Value.bool as_, Value.bool on, Value.int IntKind.i64 st, Value.int IntKind.i64 id], 23, false, false⟩)]) (ora := [(0, Ora.val (Value.bool (smallV n av L))), (1, oc)]) (fun _ => by kernel_rfl) (fun Fr hF => all_cons (h15 Fr hF) (all_cons hc0 (all_nil))) (by kernel_rfl) E0_in E0_side hA (fun a' w' h => hN (by simpa using hc0) a' w' (h.cast (by kernel_rfl) (by kernel_rfl)))
theorem SubsSeen_walk (n : ByteArray) (tO pe aw fr as_ on : Bool) (st id : Int) (A : Option Addr) (L C : Nat) (av : Nat → ActV) (w : World) (hn : n.size ≤ 140737488351232) (hA : Acts w A L av) (hL : L ≤ RB) :
    Calls Tryd.prog 6 #[.agg #[.string n, .bool tO, .bool pe, .bool aw, .bool fr, .bool as_, .bool on, .int .i64 st, .int .i64 id], .slice A L C] w fun e w' => e = .returned (.bool true) ∧ Below w.heap.size w w' := by
  have hL' := hL
  unfold RB at hL'
  refine calls_of_wp Tryd.func6 seenB ?_
  refine wp_mid [true, true, false, true] _ _ _ _ ?_
  rw [seenM, seenPo]
  refine seen_pre (n := n) (tO := tO) (pe := pe) (aw := aw) (fr := fr) (as_ := as_) (on := on) (st := st) (id := id) (A := A) (L := L) (C := C) (av := av) (AtM.start E0_in E0_side (by kernel_rfl) (by kernel_rfl) rfl (fun q hq => by simp only [List.mem_cons, List.not_mem_nil, or_false] at hq; rcases hq with rfl | rfl <;> kernel_rfl)) (fun Fr hF => ?_) (fun g1 a0 w0 h0 => ?_)
  · subst hF
    exact pureX (fun w' hw' => small_any n tO pe aw fr as_ on st id A L C av w' (by unfold RB; omega) (hA.same hw') hL) rfl (by rfl)
  obtain ⟨zn, hsm⟩ := small_each g1
  obtain ⟨I, hI⟩ : ∃ I : Act → World → Prop, I = fun a x => ∃ (k : Nat) (tO pe aw fr as_ on : Bool) (st id : Int), k ≤ L ∧ AtM Tryd.prog 64 16 161 (E0 A L C) (oLive (k : Int)) (heapL (oTri n tO pe aw fr as_ on st id)) w a x := ⟨_, rfl⟩
  refine wp_block (wp_loop I (fun a _ => L - (match a.tmps.getD 5 undef with | .int _ n => n.toNat | _ => 0)) ?_ ?_)
  · rw [hI]
    exact ⟨0, tO, pe, aw, fr, as_, on, st, id, by omega, h0⟩
  · intro a1 w1 h1
    rw [hI] at h1
    obtain ⟨k, tO, pe, aw, fr, as_, on, st, id, hk, hM⟩ := h1
    have hv := hM.val (i := 5) (v := .int .i64 (k : Int)) (by kernel_rfl) rfl
    refine wp_whole ?_
    by_cases hkL : k < L
    · obtain ⟨ad, rfl, ha⟩ := hA k hkL
      refine seen_round (Lib.hid (hM.swap (ext' := EX (some ad) L C ad k (av k)) (m := 64) E0_in EX_in E0_side EX_side ⟨_, rfl, rfl⟩ (by kernel_rfl))) (Lib.hid (knows hkL ha zn (hsm k hkL))) (Lib.hid fun tO' pe' aw' fr' as' on' st' id' a2 w2 h2 => ?_) (decide_eq_true (by omega))
      have h2' := h2.swap (ext' := E0 (some ad) L C) (m := 64) EX_in E0_in EX_side E0_side ⟨_, rfl, rfl⟩ (by kernel_rfl)
      rw [IntWalk.i64_in _ (by omega)] at h2'
      have hv2 := h2'.val (i := 5) (v := .int .i64 ((k : Int) + 1)) (by kernel_rfl) rfl
      refine ⟨?_, ?_⟩
      · rw [hI]
        exact ⟨k + 1, tO', pe', aw', fr', as', on', st', id', by omega, h2'⟩
      · rw [hv, hv2]
        simp only
        omega
    · refine seen_no hM (decide_eq_false (by omega)) (fun a2 w2 h2 => ?_)
      exact inBlock_exit (seen_post h2)
end Go.Proofs.YtofdiilfedjhkaaDoor.SubW
end
