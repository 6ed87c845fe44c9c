/- Contracts of functions of this translation, and what they come to; what is not used is left out. -/
import Derived.Test.YtpjkbamkaicoiaaDoorUg4
import Derived.Test.YtpjkbamkaicoiaaDoorUg5
import Derived.Test.YtpjkbamkaicoiaaDoorUg7
import Derived.Test.YtpjkbamkaicoiaaDoorUBox
import Derived.Test.YtpjkbamkaicoiaaDoorUCls
import Derived.Test.YtpjkbamkaicoiaaDoorUUtil
import Derived.Test.YtpjkbamkaicoiaaDoorUg6
import Derived.Test.YtpjkbamkaicoiaaDoorUg3
import Derived.Test.YtpjkbamkaicoiaaDoorUg8p1
import Derived.Test.YtpjkbamkaicoiaaDoorUg8p0
import Derived.Test.YtpjkbamkaicoiaaDoorUSesE
import Derived.Test.YtpjkbamkaicoiaaDoorUg1
import Derived.Test.YtpjkbamkaicoiaaDoorUSoft
import Derived.Test.YtpjkbamkaicoiaaDoorUHanS
import Derived.Test.YtpjkbamkaicoiaaDoorUHanR
import Derived.Test.YtpjkbamkaicoiaaDoorUHanQ
import Derived.Test.YtpjkbamkaicoiaaDoorURaQ
import Derived.Test.YtpjkbamkaicoiaaDoorURefJ
import Derived.Test.YtpjkbamkaicoiaaDoorURefF
import Derived.Test.YtpjkbamkaicoiaaDoorUGlyA
import Derived.Test.YtpjkbamkaicoiaaDoorUGlyP
import Derived.Test.YtpjkbamkaicoiaaDoorUJidP
import Derived.Test.YtpjkbamkaicoiaaDoorUStrs
import Derived.Test.YtpjkbamkaicoiaaDoorUShelf
import Derived.Test.YtpjkbamkaicoiaaDoorURaP
import Derived.Test.YtpjkbamkaicoiaaDoorURa2
import Derived.Test.YtpjkbamkaicoiaaDoorURa1
import Derived.Test.YtpjkbamkaicoiaaDoorURa0
import Derived.Test.YtpjkbamkaicoiaaDoorUg0
import Derived.Test.YtpjkbamkaicoiaaDoorUHanP
import Derived.Test.YtpjkbamkaicoiaaDoorUEscB
import Derived.Test.YtpjkbamkaicoiaaDoorUEscA
import Derived.Test.YtpjkbamkaicoiaaDoorUEscP
import Derived.Test.YtpjkbamkaicoiaaDoorUBld
import Derived.Test.YtpjkbamkaicoiaaDoorUHanA
import Derived.Test.YtpjkbamkaicoiaaDoorURep
import Derived.Test.YtpjkbamkaicoiaaDoorURc3
import Derived.Test.YtpjkbamkaicoiaaDoorURc2
import Derived.Test.YtpjkbamkaicoiaaDoorURc1
import Derived.Test.YtpjkbamkaicoiaaDoorURc0
import Derived.Test.YtpjkbamkaicoiaaDoorUHanF
import Derived.Test.YtpjkbamkaicoiaaDoorUg2

section
/- The law SessionStands, walked whole. (Printed by gen_sest.py.) -/
set_option linter.unusedVariables false
set_option linter.unusedSimpArgs false
namespace Go.Proofs.YtpjkbamkaicoiaaDoor.Ses
open Go.RowKit Go.Proofs.YtpjkbamkaicoiaaDoor.E
set_option maxRecDepth 100000
theorem st_all (ph : Int) (n pw : ByteArray) (st tm ct he sa cd : Int) (kd : Int) (nk : Int) (nn nt nd : ByteArray) (nc ns ni nm : Int) (nok : Bool) (code : Int) (W : Int) (D : ByteArray) (ext : Ext) (he64 : ∀ n p, ext n = some p → 64 ≤ n ∧ n < 64 + 8) (real : Array Value) (w : World) (hA : Hid (AR ext (AS ph n pw st tm ct he sa cd kd nk nn nt nd nc ns ni nm nok code) real)) (HK : Hid (Kn ext w ph n pw st tm ct he sa cd kd nk nn nt nd nc ns ni nm nok code W D)) :
    Calls Tryd.prog 6 real w fun e w' => e = .returned (.bool true) ∧ Below w.heap.size w w' := by
  rcases Bool.eq_false_or_eq_true (decide (IntKind.wrap IntKind.i64 ((↑(ByteArray.size n) : Int) + (↑(ByteArray.size pw) : Int)) > (12000 : Int))) with hc0 | hc0
  · exact st_1 ph n pw st tm ct he sa cd kd nk nn nt nd nc ns ni nm nok code W D ext he64 real w hA HK hc0
  · rcases Bool.eq_false_or_eq_true (!decide (IntKind.wrap IntKind.i64 ((0 : Int) + W) ≤ (12000 : Int))) with hc1 | hc1
    · exact st_2 ph n pw st tm ct he sa cd kd nk nn nt nd nc ns ni nm nok code W D ext he64 real w hA HK hc0 hc1
    · rcases Bool.eq_false_or_eq_true (decide (he < (0 : Int))) with hc2 | hc2
      · exact st_3 ph n pw st tm ct he sa cd kd nk nn nt nd nc ns ni nm nok code W D ext he64 real w hA HK hc0 hc1 hc2
      · rcases Bool.eq_false_or_eq_true (decide (he > (1000000 : Int))) with hc3 | hc3
        · exact st_4 ph n pw st tm ct he sa cd kd nk nn nt nd nc ns ni nm nok code W D ext he64 real w hA HK hc0 hc1 hc2 hc3
        · rcases Bool.eq_false_or_eq_true (decide (sa < (0 : Int))) with hc4 | hc4
          · exact st_5 ph n pw st tm ct he sa cd kd nk nn nt nd nc ns ni nm nok code W D ext he64 real w hA HK hc0 hc1 hc2 hc3 hc4
          · rcases Bool.eq_false_or_eq_true (decide (sa > (1000000 : Int))) with hc5 | hc5
            · exact st_6 ph n pw st tm ct he sa cd kd nk nn nt nd nc ns ni nm nok code W D ext he64 real w hA HK hc0 hc1 hc2 hc3 hc4 hc5
            · rcases Bool.eq_false_or_eq_true (kd == (0 : Int)) with hc6 | hc6
              · rcases Bool.eq_false_or_eq_true (decide (ph ≥ (1 : Int))) with hc7 | hc7
                · rcases Bool.eq_false_or_eq_true (!decide (ph ≤ (5 : Int))) with hc8 | hc8
                  · exact st_7 ph n pw st tm ct he sa cd kd nk nn nt nd nc ns ni nm nok code W D ext he64 real w hA HK hc0 hc1 hc2 hc3 hc4 hc5 hc6 hc7 hc8
                  · rcases Bool.eq_false_or_eq_true (nk == (3 : Int)) with hc9 | hc9
                    · exact st_8 ph n pw st tm ct he sa cd kd nk nn nt nd nc ns ni nm nok code W D ext he64 real w hA HK hc0 hc1 hc2 hc3 hc4 hc5 hc6 hc7 hc8 hc9
                    · rcases Bool.eq_false_or_eq_true (ph == (1 : Int) && (nk == (6 : Int) && true)) with hc10 | hc10
                      · exact st_9 ph n pw st tm ct he sa cd kd nk nn nt nd nc ns ni nm nok code W D ext he64 real w hA HK hc0 hc1 hc2 hc3 hc4 hc5 hc6 hc7 hc8 hc9 hc10
                      · rcases Bool.eq_false_or_eq_true (ph == (2 : Int) && (nk == (8 : Int) && true)) with hc11 | hc11
                        · rcases Bool.eq_false_or_eq_true (!ByteArray.toList (Han.normB nn) == ByteArray.toList (Han.normB n)) with hc12 | hc12
                          · exact st_10 ph n pw st tm ct he sa cd kd nk nn nt nd nc ns ni nm nok code W D ext he64 real w hA HK hc0 hc1 hc2 hc3 hc4 hc5 hc6 hc7 hc8 hc9 hc10 hc11 hc12
                          · rcases Bool.eq_false_or_eq_true (nc != (0 : Int)) with hc13 | hc13
                            · exact st_11 ph n pw st tm ct he sa cd kd nk nn nt nd nc ns ni nm nok code W D ext he64 real w hA HK hc0 hc1 hc2 hc3 hc4 hc5 hc6 hc7 hc8 hc9 hc10 hc11 hc12 hc13
                            · exact st_12 ph n pw st tm ct he sa cd kd nk nn nt nd nc ns ni nm nok code W D ext he64 real w hA HK hc0 hc1 hc2 hc3 hc4 hc5 hc6 hc7 hc8 hc9 hc10 hc11 hc12 hc13
                        · rcases Bool.eq_false_or_eq_true (ph == (3 : Int) && (nk == (9 : Int) && true)) with hc12 | hc12
                          · exact st_13 ph n pw st tm ct he sa cd kd nk nn nt nd nc ns ni nm nok code W D ext he64 real w hA HK hc0 hc1 hc2 hc3 hc4 hc5 hc6 hc7 hc8 hc9 hc10 hc11 hc12
                          · rcases Bool.eq_false_or_eq_true (ph == (4 : Int) && (nk == (18 : Int) && true)) with hc13 | hc13
                            · exact st_14 ph n pw st tm ct he sa cd kd nk nn nt nd nc ns ni nm nok code W D ext he64 real w hA HK hc0 hc1 hc2 hc3 hc4 hc5 hc6 hc7 hc8 hc9 hc10 hc11 hc12 hc13
                            · rcases Bool.eq_false_or_eq_true (ph == (4 : Int) && (nk == (19 : Int) && true)) with hc14 | hc14
                              · exact st_15 ph n pw st tm ct he sa cd kd nk nn nt nd nc ns ni nm nok code W D ext he64 real w hA HK hc0 hc1 hc2 hc3 hc4 hc5 hc6 hc7 hc8 hc9 hc10 hc11 hc12 hc13 hc14
                              · rcases Bool.eq_false_or_eq_true (ph == (5 : Int)) with hc15 | hc15
                                · rcases Bool.eq_false_or_eq_true (nk == (13 : Int)) with hc16 | hc16
                                  · exact st_16 ph n pw st tm ct he sa cd kd nk nn nt nd nc ns ni nm nok code W D ext he64 real w hA HK hc0 hc1 hc2 hc3 hc4 hc5 hc6 hc7 hc8 hc9 hc10 hc11 hc12 hc13 hc14 hc15 hc16
                                  · rcases Bool.eq_false_or_eq_true (nk == (14 : Int)) with hc17 | hc17
                                    · exact st_17 ph n pw st tm ct he sa cd kd nk nn nt nd nc ns ni nm nok code W D ext he64 real w hA HK hc0 hc1 hc2 hc3 hc4 hc5 hc6 hc7 hc8 hc9 hc10 hc11 hc12 hc13 hc14 hc15 hc16 hc17
                                    · rcases Bool.eq_false_or_eq_true (nk == (16 : Int)) with hc18 | hc18
                                      · exact st_18 ph n pw st tm ct he sa cd kd nk nn nt nd nc ns ni nm nok code W D ext he64 real w hA HK hc0 hc1 hc2 hc3 hc4 hc5 hc6 hc7 hc8 hc9 hc10 hc11 hc12 hc13 hc14 hc15 hc16 hc17 hc18
                                      · rcases Bool.eq_false_or_eq_true (nk == (18 : Int)) with hc19 | hc19
                                        · exact st_19 ph n pw st tm ct he sa cd kd nk nn nt nd nc ns ni nm nok code W D ext he64 real w hA HK hc0 hc1 hc2 hc3 hc4 hc5 hc6 hc7 hc8 hc9 hc10 hc11 hc12 hc13 hc14 hc15 hc16 hc17 hc18 hc19
                                        · rcases Bool.eq_false_or_eq_true (nk == (19 : Int)) with hc20 | hc20
                                          · exact st_20 ph n pw st tm ct he sa cd kd nk nn nt nd nc ns ni nm nok code W D ext he64 real w hA HK hc0 hc1 hc2 hc3 hc4 hc5 hc6 hc7 hc8 hc9 hc10 hc11 hc12 hc13 hc14 hc15 hc16 hc17 hc18 hc19 hc20
                                          · rcases Bool.eq_false_or_eq_true (nk == (25 : Int)) with hc21 | hc21
                                            · exact st_21 ph n pw st tm ct he sa cd kd nk nn nt nd nc ns ni nm nok code W D ext he64 real w hA HK hc0 hc1 hc2 hc3 hc4 hc5 hc6 hc7 hc8 hc9 hc10 hc11 hc12 hc13 hc14 hc15 hc16 hc17 hc18 hc19 hc20 hc21
                                            · rcases Bool.eq_false_or_eq_true (nk == (27 : Int)) with hc22 | hc22
                                              · exact st_22 ph n pw st tm ct he sa cd kd nk nn nt nd nc ns ni nm nok code W D ext he64 real w hA HK hc0 hc1 hc2 hc3 hc4 hc5 hc6 hc7 hc8 hc9 hc10 hc11 hc12 hc13 hc14 hc15 hc16 hc17 hc18 hc19 hc20 hc21 hc22
                                              · rcases Bool.eq_false_or_eq_true (nk == (29 : Int)) with hc23 | hc23
                                                · exact st_23 ph n pw st tm ct he sa cd kd nk nn nt nd nc ns ni nm nok code W D ext he64 real w hA HK hc0 hc1 hc2 hc3 hc4 hc5 hc6 hc7 hc8 hc9 hc10 hc11 hc12 hc13 hc14 hc15 hc16 hc17 hc18 hc19 hc20 hc21 hc22 hc23
                                                · rcases Bool.eq_false_or_eq_true (nk == (6 : Int)) with hc24 | hc24
                                                  · exact st_24 ph n pw st tm ct he sa cd kd nk nn nt nd nc ns ni nm nok code W D ext he64 real w hA HK hc0 hc1 hc2 hc3 hc4 hc5 hc6 hc7 hc8 hc9 hc10 hc11 hc12 hc13 hc14 hc15 hc16 hc17 hc18 hc19 hc20 hc21 hc22 hc23 hc24
                                                  · rcases Bool.eq_false_or_eq_true (nk == (8 : Int)) with hc25 | hc25
                                                    · exact st_25 ph n pw st tm ct he sa cd kd nk nn nt nd nc ns ni nm nok code W D ext he64 real w hA HK hc0 hc1 hc2 hc3 hc4 hc5 hc6 hc7 hc8 hc9 hc10 hc11 hc12 hc13 hc14 hc15 hc16 hc17 hc18 hc19 hc20 hc21 hc22 hc23 hc24 hc25
                                                    · rcases Bool.eq_false_or_eq_true (nk == (9 : Int)) with hc26 | hc26
                                                      · exact st_26 ph n pw st tm ct he sa cd kd nk nn nt nd nc ns ni nm nok code W D ext he64 real w hA HK hc0 hc1 hc2 hc3 hc4 hc5 hc6 hc7 hc8 hc9 hc10 hc11 hc12 hc13 hc14 hc15 hc16 hc17 hc18 hc19 hc20 hc21 hc22 hc23 hc24 hc25 hc26
                                                      · exact st_27 ph n pw st tm ct he sa cd kd nk nn nt nd nc ns ni nm nok code W D ext he64 real w hA HK hc0 hc1 hc2 hc3 hc4 hc5 hc6 hc7 hc8 hc9 hc10 hc11 hc12 hc13 hc14 hc15 hc16 hc17 hc18 hc19 hc20 hc21 hc22 hc23 hc24 hc25 hc26
                                · rcases Bool.eq_false_or_eq_true (nk == (6 : Int)) with hc16 | hc16
                                  · exact st_28 ph n pw st tm ct he sa cd kd nk nn nt nd nc ns ni nm nok code W D ext he64 real w hA HK hc0 hc1 hc2 hc3 hc4 hc5 hc6 hc7 hc8 hc9 hc10 hc11 hc12 hc13 hc14 hc15 hc16
                                  · rcases Bool.eq_false_or_eq_true (nk == (8 : Int)) with hc17 | hc17
                                    · exact st_29 ph n pw st tm ct he sa cd kd nk nn nt nd nc ns ni nm nok code W D ext he64 real w hA HK hc0 hc1 hc2 hc3 hc4 hc5 hc6 hc7 hc8 hc9 hc10 hc11 hc12 hc13 hc14 hc15 hc16 hc17
                                    · rcases Bool.eq_false_or_eq_true (nk == (9 : Int)) with hc18 | hc18
                                      · exact st_30 ph n pw st tm ct he sa cd kd nk nn nt nd nc ns ni nm nok code W D ext he64 real w hA HK hc0 hc1 hc2 hc3 hc4 hc5 hc6 hc7 hc8 hc9 hc10 hc11 hc12 hc13 hc14 hc15 hc16 hc17 hc18
                                      · rcases Bool.eq_false_or_eq_true (nk == (18 : Int)) with hc19 | hc19
                                        · exact st_31 ph n pw st tm ct he sa cd kd nk nn nt nd nc ns ni nm nok code W D ext he64 real w hA HK hc0 hc1 hc2 hc3 hc4 hc5 hc6 hc7 hc8 hc9 hc10 hc11 hc12 hc13 hc14 hc15 hc16 hc17 hc18 hc19
                                        · rcases Bool.eq_false_or_eq_true (nk == (19 : Int)) with hc20 | hc20
                                          · exact st_32 ph n pw st tm ct he sa cd kd nk nn nt nd nc ns ni nm nok code W D ext he64 real w hA HK hc0 hc1 hc2 hc3 hc4 hc5 hc6 hc7 hc8 hc9 hc10 hc11 hc12 hc13 hc14 hc15 hc16 hc17 hc18 hc19 hc20
                                          · exact st_33 ph n pw st tm ct he sa cd kd nk nn nt nd nc ns ni nm nok code W D ext he64 real w hA HK hc0 hc1 hc2 hc3 hc4 hc5 hc6 hc7 hc8 hc9 hc10 hc11 hc12 hc13 hc14 hc15 hc16 hc17 hc18 hc19 hc20
                · exact st_34 ph n pw st tm ct he sa cd kd nk nn nt nd nc ns ni nm nok code W D ext he64 real w hA HK hc0 hc1 hc2 hc3 hc4 hc5 hc6 hc7
              · rcases Bool.eq_false_or_eq_true (kd == (1 : Int)) with hc7 | hc7
                · rcases Bool.eq_false_or_eq_true (decide (ph ≥ (1 : Int))) with hc8 | hc8
                  · rcases Bool.eq_false_or_eq_true (!decide (ph ≤ (5 : Int))) with hc9 | hc9
                    · exact st_35 ph n pw st tm ct he sa cd kd nk nn nt nd nc ns ni nm nok code W D ext he64 real w hA HK hc0 hc1 hc2 hc3 hc4 hc5 hc6 hc7 hc8 hc9
                    · rcases Bool.eq_false_or_eq_true (decide (IntKind.wrap IntKind.i64 (he + (1 : Int)) ≥ (90 : Int))) with hc10 | hc10
                      · exact st_36 ph n pw st tm ct he sa cd kd nk nn nt nd nc ns ni nm nok code W D ext he64 real w hA HK hc0 hc1 hc2 hc3 hc4 hc5 hc6 hc7 hc8 hc9 hc10
                      · rcases Bool.eq_false_or_eq_true (decide (IntKind.wrap IntKind.i64 (sa + (1 : Int)) ≥ (30 : Int))) with hc11 | hc11
                        · rcases Bool.eq_false_or_eq_true (ph == (5 : Int)) with hc12 | hc12
                          · exact st_37 ph n pw st tm ct he sa cd kd nk nn nt nd nc ns ni nm nok code W D ext he64 real w hA HK hc0 hc1 hc2 hc3 hc4 hc5 hc6 hc7 hc8 hc9 hc10 hc11 hc12
                          · exact st_38 ph n pw st tm ct he sa cd kd nk nn nt nd nc ns ni nm nok code W D ext he64 real w hA HK hc0 hc1 hc2 hc3 hc4 hc5 hc6 hc7 hc8 hc9 hc10 hc11 hc12
                        · exact st_39 ph n pw st tm ct he sa cd kd nk nn nt nd nc ns ni nm nok code W D ext he64 real w hA HK hc0 hc1 hc2 hc3 hc4 hc5 hc6 hc7 hc8 hc9 hc10 hc11
                  · exact st_40 ph n pw st tm ct he sa cd kd nk nn nt nd nc ns ni nm nok code W D ext he64 real w hA HK hc0 hc1 hc2 hc3 hc4 hc5 hc6 hc7 hc8
                · rcases Bool.eq_false_or_eq_true (kd == (2 : Int)) with hc8 | hc8
                  · rcases Bool.eq_false_or_eq_true (decide (ph ≥ (1 : Int))) with hc9 | hc9
                    · rcases Bool.eq_false_or_eq_true (!decide (ph ≤ (5 : Int))) with hc10 | hc10
                      · exact st_41 ph n pw st tm ct he sa cd kd nk nn nt nd nc ns ni nm nok code W D ext he64 real w hA HK hc0 hc1 hc2 hc3 hc4 hc5 hc6 hc7 hc8 hc9 hc10
                      · exact st_42 ph n pw st tm ct he sa cd kd nk nn nt nd nc ns ni nm nok code W D ext he64 real w hA HK hc0 hc1 hc2 hc3 hc4 hc5 hc6 hc7 hc8 hc9 hc10
                    · exact st_43 ph n pw st tm ct he sa cd kd nk nn nt nd nc ns ni nm nok code W D ext he64 real w hA HK hc0 hc1 hc2 hc3 hc4 hc5 hc6 hc7 hc8 hc9
                  · rcases Bool.eq_false_or_eq_true (decide (ph ≥ (1 : Int))) with hc9 | hc9
                    · rcases Bool.eq_false_or_eq_true (decide (ph ≤ (5 : Int))) with hc10 | hc10
                      · exact st_44 ph n pw st tm ct he sa cd kd nk nn nt nd nc ns ni nm nok code W D ext he64 real w hA HK hc0 hc1 hc2 hc3 hc4 hc5 hc6 hc7 hc8 hc9 hc10
                      · exact st_45 ph n pw st tm ct he sa cd kd nk nn nt nd nc ns ni nm nok code W D ext he64 real w hA HK hc0 hc1 hc2 hc3 hc4 hc5 hc6 hc7 hc8 hc9 hc10
                    · exact st_46 ph n pw st tm ct he sa cd kd nk nn nt nd nc ns ni nm nok code W D ext he64 real w hA HK hc0 hc1 hc2 hc3 hc4 hc5 hc6 hc7 hc8 hc9
theorem wl_ge (it : Nat → ByteArray × ByteArray) (m : Int) : ∀ (j k : Nat) (acc : Int), acc ≤ wl it m j k acc
  | 0, _, acc => Int.le_refl _
  | j + 1, k, acc => by
    unfold wl
    split
    · have := wl_ge it m j (k + 1) (acc + 1 + ((it k).1.size : Int) + ((it k).2.size : Int))
      omega
    · exact Int.le_refl _
theorem wl_le (it : Nat → ByteArray × ByteArray) (m : Int) (hm : m ≤ 1000000) (n : Nat) (hz : ∀ i, i < n → (it i).1.size ≤ RB ∧ (it i).2.size ≤ RB) : ∀ (j k : Nat) (acc : Int), j + k ≤ n → acc ≤ 1000000000000000000 → wl it m j k acc ≤ 1000000000000000000
  | 0, _, acc, _, h => h
  | j + 1, k, acc, hk, h => by
    unfold wl
    split
    · have := hz k (by omega)
      unfold RB at this
      exact wl_le it m hm n hz j (k + 1) _ (by omega) (by omega)
    · exact h
theorem mem_same {w w' : World} (h : ∀ b, b < w.heap.size → w'.heap[b]? = w.heap[b]?) {a : Addr} (ha : a.block < w.heap.size) : w'.cell? a = w.cell? a := by
  unfold World.cell?
  rw [h _ ha]
theorem size_same {w w' : World} (h : ∀ b, b < w.heap.size → w'.heap[b]? = w.heap[b]?) {b : Nat} (hb : b < w.heap.size) : b < w'.heap.size := by
  have := h b hb
  rw [Array.getElem?_eq_getElem hb] at this
  exact (Array.getElem?_eq_some_iff.1 this).1
theorem ItemAt.same {w w' : World} (h : ∀ b, b < w.heap.size → w'.heap[b]? = w.heap[b]?) {ad : Addr} {i : Nat} {a b : ByteArray} (hi : ItemAt w ad i a b) : ItemAt w' ad i a b :=
  ⟨size_same h hi.lt, (mem_same h (by rw [addB]; exact hi.lt)).trans hi.c0, (mem_same h (by show (ad.add (i * 6)).block < _; rw [addB]; exact hi.lt)).trans hi.c4⟩
theorem Item6.same {w w' : World} (h : ∀ b, b < w.heap.size → w'.heap[b]? = w.heap[b]?) {ad : Addr} {i : Nat} {c0 : ByteArray} {c1 c2 c3 : Int} {c4 : ByteArray} {c5 : Bool} (hi : Item6 w ad i c0 c1 c2 c3 c4 c5) : Item6 w' ad i c0 c1 c2 c3 c4 c5 :=
  have hl : (ad.add (i * 6)).block < w.heap.size := by rw [addB]; exact hi.lt
  ⟨size_same h hi.lt, (mem_same h (by show (ad.add (i * 6)).block < _; exact hl)).trans hi.c0_, (mem_same h (by show (ad.add (i * 6)).block < _; exact hl)).trans hi.c1_, (mem_same h (by show (ad.add (i * 6)).block < _; exact hl)).trans hi.c2_, (mem_same h (by show (ad.add (i * 6)).block < _; exact hl)).trans hi.c3_, (mem_same h (by show (ad.add (i * 6)).block < _; exact hl)).trans hi.c4_, (mem_same h (by show (ad.add (i * 6)).block < _; exact hl)).trans hi.c5_⟩
theorem Items6.same {w w' : World} (h : ∀ b, b < w.heap.size → w'.heap[b]? = w.heap[b]?) {X : Option Addr} {n : Nat} (hi : Items6 w X n) : Items6 w' X n := fun i hl => by
  obtain ⟨ad, c0, c1, c2, c3, c4, c5, e, ha, z⟩ := hi i hl
  exact ⟨ad, c0, c1, c2, c3, c4, c5, e, ha.same h, z⟩
theorem Ints.same {w w' : World} (h : ∀ b, b < w.heap.size → w'.heap[b]? = w.heap[b]?) {X : Option Addr} {n : Nat} (hi : Ints w X n) : Ints w' X n := fun i hl => by
  obtain ⟨ad, z, e, hb, hc⟩ := hi i hl
  exact ⟨ad, z, e, size_same h hb, (mem_same h (by rw [addB]; exact hb)).trans hc⟩
theorem ItemsAre.same {w w' : World} (h : ∀ b, b < w.heap.size → w'.heap[b]? = w.heap[b]?) {X : Option Addr} {n : Nat} {it : Nat → ByteArray × ByteArray} (hi : ItemsAre w X n it) : ItemsAre w' X n it := fun i hl => by
  obtain ⟨ad, e, ha, z⟩ := hi i hl
  exact ⟨ad, e, ha.same h, z⟩
def slot (ia : Option Addr) (il ic : Nat) (ja : Option Addr) (jl jc : Nat) : Ext := extL 64 [.slice ia il ic, .slice ja jl jc]
theorem SessionStands_walk (ph : Int) (n pw : ByteArray) (st tm ct he sa cd : Int) (kd : Int) (nk : Int) (nn nt nd : ByteArray) (nc ns ni nm : Int) (nok : Bool) (ia : Option Addr) (il ic : Nat) (ja : Option Addr) (jl jc : Nat) (code : Int) (w : World) (q1 : n.size ≤ 140737488351232) (q2 : pw.size ≤ 140737488351232) (z1 : nn.size ≤ RB) (z2 : nt.size ≤ RB) (z3 : nd.size ≤ RB) (hI : Items6 w ia il) (hl : il ≤ 9223372036854775807) (hJ : Ints w ja jl) (z4 : jl ≤ RB) :
    Calls Tryd.prog 6 #[.agg #[.int .i64 ph, .string n, .string pw, .int .i64 st, .int .i64 tm, .int .i64 ct, .int .i64 he, .int .i64 sa, .int .i64 cd], .agg #[.int .i64 kd, .int .i64 nk, .string nn, .string nt, .string nd, .int .i64 nc, .int .i64 ns, .int .i64 ni, .int .i64 nm, .bool nok, .slice ia il ic, .slice ja jl jc, .int .i64 code]] w fun e w' => e = .returned (.bool true) ∧ Below w.heap.size w w' := by
  obtain ⟨it, hit⟩ := hI.items.are
  have zz : ∀ i, i < il → (it i).1.size ≤ RB ∧ (it i).2.size ≤ RB := fun i hi => by
    obtain ⟨_, _, _, a, b⟩ := hit i hi
    exact ⟨a, b⟩
  unfold RB at z1 z2 z3 z4
  obtain ⟨W, hW⟩ : ∃ W, W = wl it 12000 il 0 ((nn.size : Int) + (nt.size : Int) + (nd.size : Int) + (jl : Int)) := ⟨_, rfl⟩
  have hW1 := wl_ge it 12000 il 0 ((nn.size : Int) + (nt.size : Int) + (nd.size : Int) + (jl : Int))
  have hW2 := wl_le it 12000 (by omega) il zz il 0 ((nn.size : Int) + (nt.size : Int) + (nd.size : Int) + (jl : Int)) (by omega) (by omega)
  rw [← hW] at hW1 hW2
  have b0 : (decide (IntKind.wrap IntKind.i64 ((↑(ByteArray.size n) : Int) + (↑(ByteArray.size pw) : Int)) > (12000 : Int))) = false → n.size ≤ 12000 ∧ pw.size ≤ 12000 := fun h => by
    have h := of_decide_eq_false h
    rw [IntWalk.i64_in _ (by omega)] at h
    omega
  have b1 : (!decide (IntKind.wrap IntKind.i64 ((0 : Int) + W) ≤ (12000 : Int))) = false → nn.size ≤ 12000 ∧ nd.size ≤ 12000 := fun h => by
    rw [Bool.not_eq_false', decide_eq_true_eq] at h
    rw [IntWalk.i64_in _ (by omega)] at h
    omega
  obtain ⟨D, hD⟩ : ∃ D : ByteArray, (decide (IntKind.wrap IntKind.i64 ((↑(ByteArray.size n) : Int) + (↑(ByteArray.size pw) : Int)) > (12000 : Int))) = false → (!decide (IntKind.wrap IntKind.i64 ((0 : Int) + W) ≤ (12000 : Int))) = false → (∀ w, Calls Tryd.prog 27 #[.string nd, .string pw, .string tailS] w fun e w' => e = .returned (.string D) ∧ Below w.heap.size w w') ∧ (∀ w, Calls Tryd.prog 11 #[.string nd, .string pw] w fun e w' => e = .returned (.string D) ∧ Below w.heap.size w w') := by
    by_cases h : nd.size ≤ 12000 ∧ pw.size ≤ 12000
    · obtain ⟨D, _, h1, h2⟩ := salteds nd pw (by omega) (by omega)
      exact ⟨D, fun _ _ => ⟨h1, h2⟩⟩
    · exact ⟨default, fun x y => absurd ⟨(b1 y).2, (b0 x).2⟩ h⟩
  have hx : ∀ k p, slot ia il ic ja jl jc k = some p → (match p.v with | .agg _ | .tuple _ | .bool _ => false | _ => true) = true := fun k p hp => by
    unfold slot extL at hp
    split at hp
    · cases hp
    · rcases hk : k - 64 with _ | _ | j <;> rw [hk] at hp <;> simp at hp <;> subst hp <;> rfl
  have hA : AR (slot ia il ic ja jl jc) (AS ph n pw st tm ct he sa cd kd nk nn nt nd nc ns ni nm nok code) ⟨(AS ph n pw st tm ct he sa cd kd nk nn nt nd nc ns ni nm nok code).toList.map (real (slot ia il ic ja jl jc) 6)⟩ := ar_real hx (by rfl)
  refine st_all ph n pw st tm ct he sa cd kd nk nn nt nd nc ns ni nm nok code W D (slot ia il ic ja jl jc) (fun n p h => by have := extL_le h; simp at this; omega) _ w (Lib.hid hA) (Lib.hid ⟨?_, ?_, ?_, ?_, ?_, ?_, ?_⟩)
  · rintro Fr rfl
    refine pureX (fun w' hw => ?_) rfl (by rfl)
    refine (Weight_is nk nn nt nd nc ns ni nm nok ia il ic ja jl jc 12000 it w' (hit.same hw) hl (by unfold RB; omega) (by unfold RB; omega) (by unfold RB; omega) (by unfold RB; omega) (by omega)).mono fun e w'' h => ⟨by rw [h.1, hW], h.2.low⟩
  · rintro Fr rfl
    refine pureX (fun w' hw => ?_) rfl (by rfl)
    exact (NSame_eq nk nn nt nd nc ns ni nm nok ia il ic ja jl jc w' (hI.same hw) hl (hJ.same hw) (by omega)).mono fun e w'' h => ⟨h.1, h.2.low⟩
  · exact fun x y Fr => pureC_of (hD x y).1 rfl (by rfl) Fr
  · exact fun x y Fr => pureC_of (hD x y).2 rfl (by rfl) Fr
  · intro x y Fr
    have := b0 x; have := b1 y
    refine pureC_of (fun w => ?_) rfl (by rfl) Fr
    refine (Han.Same_any nn n (by omega) (by omega) w).mono fun e w' h => ⟨?_, h.2⟩
    rw [h.1, Lib.toList_data, Lib.toList_data]; rfl
  · intro x y Fr
    have := b0 x; have := b1 y
    exact pureC_of (fun w => F.wharfref04_Norm.calls nn _ w (by unfold F.wharfref04_Norm.f F.hm; rw [if_pos (by omega)])) rfl (by rfl) Fr
  · intro x y Fr
    have := b0 x; have := b1 y
    exact pureC_of (fun w => F.wharfref04_Norm.calls n _ w (by unfold F.wharfref04_Norm.f F.hm; rw [if_pos (by omega)])) rfl (by rfl) Fr
end Go.Proofs.YtpjkbamkaicoiaaDoor.Ses
end
