/- The law PayloadPuts, walked whole. -/
import Derived.Test.YtakfoidmabendaaDoorPayD1a
import Derived.Test.YtakfoidmabendaaDoorPayD1b
import Derived.Test.YtakfoidmabendaaDoorPayD1c
import Derived.Test.YtakfoidmabendaaDoorPayD1d
import Derived.Test.YtakfoidmabendaaDoorPayD2a
import Derived.Test.YtakfoidmabendaaDoorPayD2b
import Derived.Test.YtakfoidmabendaaDoorPayD2c
import Derived.Test.YtakfoidmabendaaDoorPayD2d
set_option linter.unusedVariables false
set_option linter.unusedSimpArgs false
namespace Go.Proofs.YtakfoidmabendaaDoor.Pay
open Go.RowKit Go.Proofs.YtakfoidmabendaaDoor.E
set_option maxRecDepth 100000
theorem puts_true (k : Int) (u p x : ByteArray) (user : ByteArray) (a b c : ByteArray) (sec : Int) (hs : a.size + b.size + c.size ≤ 1000000000000000) (w : World) :
    Calls Tryd.prog 5 #[.agg #[.int .i64 k, .string u, .string p, .string x], .bool true, .string user, .agg #[.string a, .string b, .string c], .int .i64 sec] w fun e w' => e = .returned (.bool true) ∧ Below w.heap.size w w' := by
  rcases Bool.eq_false_or_eq_true (decide (IntKind.wrap IntKind.i64 (IntKind.wrap IntKind.i64 (IntKind.wrap IntKind.i64 (IntKind.wrap IntKind.i64 (IntKind.wrap IntKind.i64 (IntKind.wrap IntKind.i64 ((↑(ByteArray.size u) : Int) + (↑(ByteArray.size p) : Int)) + (↑(ByteArray.size x) : Int)) + (↑(ByteArray.size user) : Int)) + (↑(ByteArray.size a) : Int)) + (↑(ByteArray.size b) : Int)) + (↑(ByteArray.size c) : Int)) > (10000 : Int))) with hc0 | hc0
  · exact puts_true_1 k u p x user a b c sec hs hc0 w
  · rcases Bool.eq_false_or_eq_true (k == (1 : Int)) with hc1 | hc1
    · exact puts_true_2 k u p x user a b c sec hs hc0 hc1 w
    · rcases Bool.eq_false_or_eq_true (k == (2 : Int)) with hc2 | hc2
      · exact puts_true_3 k u p x user a b c sec hs hc0 hc1 hc2 w
      · rcases Bool.eq_false_or_eq_true (k == (3 : Int)) with hc3 | hc3
        · exact puts_true_4 k u p x user a b c sec hs hc0 hc1 hc2 hc3 w
        · rcases Bool.eq_false_or_eq_true (k == (4 : Int)) with hc4 | hc4
          · exact puts_true_5 k u p x user a b c sec hs hc0 hc1 hc2 hc3 hc4 w
          · rcases Bool.eq_false_or_eq_true (k == (5 : Int)) with hc5 | hc5
            · exact puts_true_6 k u p x user a b c sec hs hc0 hc1 hc2 hc3 hc4 hc5 w
            · rcases Bool.eq_false_or_eq_true (k == (6 : Int)) with hc6 | hc6
              · exact puts_true_7 k u p x user a b c sec hs hc0 hc1 hc2 hc3 hc4 hc5 hc6 w
              · rcases Bool.eq_false_or_eq_true (k == (7 : Int)) with hc7 | hc7
                · exact puts_true_8 k u p x user a b c sec hs hc0 hc1 hc2 hc3 hc4 hc5 hc6 hc7 w
                · rcases Bool.eq_false_or_eq_true (k == (8 : Int)) with hc8 | hc8
                  · exact puts_true_9 k u p x user a b c sec hs hc0 hc1 hc2 hc3 hc4 hc5 hc6 hc7 hc8 w
                  · exact puts_true_10 k u p x user a b c sec hs hc0 hc1 hc2 hc3 hc4 hc5 hc6 hc7 hc8 w
theorem puts_false (k : Int) (u p x : ByteArray) (user : ByteArray) (a b c : ByteArray) (sec : Int) (hs : a.size + b.size + c.size ≤ 1000000000000000) (w : World) :
    Calls Tryd.prog 5 #[.agg #[.int .i64 k, .string u, .string p, .string x], .bool false, .string user, .agg #[.string a, .string b, .string c], .int .i64 sec] w fun e w' => e = .returned (.bool true) ∧ Below w.heap.size w w' := by
  rcases Bool.eq_false_or_eq_true (decide (IntKind.wrap IntKind.i64 (IntKind.wrap IntKind.i64 (IntKind.wrap IntKind.i64 (IntKind.wrap IntKind.i64 (IntKind.wrap IntKind.i64 (IntKind.wrap IntKind.i64 ((↑(ByteArray.size u) : Int) + (↑(ByteArray.size p) : Int)) + (↑(ByteArray.size x) : Int)) + (↑(ByteArray.size user) : Int)) + (↑(ByteArray.size a) : Int)) + (↑(ByteArray.size b) : Int)) + (↑(ByteArray.size c) : Int)) > (10000 : Int))) with hc0 | hc0
  · exact puts_false_1 k u p x user a b c sec hs hc0 w
  · rcases Bool.eq_false_or_eq_true (k == (1 : Int)) with hc1 | hc1
    · exact puts_false_2 k u p x user a b c sec hs hc0 hc1 w
    · rcases Bool.eq_false_or_eq_true (k == (2 : Int)) with hc2 | hc2
      · exact puts_false_3 k u p x user a b c sec hs hc0 hc1 hc2 w
      · rcases Bool.eq_false_or_eq_true (k == (3 : Int)) with hc3 | hc3
        · exact puts_false_4 k u p x user a b c sec hs hc0 hc1 hc2 hc3 w
        · rcases Bool.eq_false_or_eq_true (k == (4 : Int)) with hc4 | hc4
          · exact puts_false_5 k u p x user a b c sec hs hc0 hc1 hc2 hc3 hc4 w
          · rcases Bool.eq_false_or_eq_true (k == (5 : Int)) with hc5 | hc5
            · exact puts_false_6 k u p x user a b c sec hs hc0 hc1 hc2 hc3 hc4 hc5 w
            · rcases Bool.eq_false_or_eq_true (k == (6 : Int)) with hc6 | hc6
              · exact puts_false_7 k u p x user a b c sec hs hc0 hc1 hc2 hc3 hc4 hc5 hc6 w
              · rcases Bool.eq_false_or_eq_true (k == (7 : Int)) with hc7 | hc7
                · exact puts_false_8 k u p x user a b c sec hs hc0 hc1 hc2 hc3 hc4 hc5 hc6 hc7 w
                · rcases Bool.eq_false_or_eq_true (k == (8 : Int)) with hc8 | hc8
                  · exact puts_false_9 k u p x user a b c sec hs hc0 hc1 hc2 hc3 hc4 hc5 hc6 hc7 hc8 w
                  · exact puts_false_10 k u p x user a b c sec hs hc0 hc1 hc2 hc3 hc4 hc5 hc6 hc7 hc8 w
theorem PayloadPuts_walk (k : Int) (u p x : ByteArray) (reg : Bool) (user a b c : ByteArray) (sec : Int) (z1 : u.size ≤ 140737488351232) (z2 : p.size ≤ 140737488351232) (z3 : x.size ≤ 140737488351232) (z4 : user.size ≤ 140737488351232)
    (z5 : a.size ≤ 140737488351232) (z6 : b.size ≤ 140737488351232) (z7 : c.size ≤ 140737488351232) (hw : (Lit.int .i64 sec).wf = true) (w : World) :
    Calls Tryd.prog 5 #[.agg #[.int .i64 k, .string u, .string p, .string x], .bool reg, .string user, .agg #[.string a, .string b, .string c], .int .i64 sec] w fun e w' => e = .returned (.bool true) ∧ Below w.heap.size w w' := by
  cases reg with
  | true => exact puts_true k u p x user a b c sec (by omega) w
  | false => exact puts_false k u p x user a b c sec (by omega) w
end Go.Proofs.YtakfoidmabendaaDoor.Pay
