/- The law PayloadPuts, registered: false: some of its ways. (Printed from the driver's text.) -/
import Derived.Test.YtakfoidmabendaaDoorPayD0
set_option linter.unusedVariables false
set_option linter.unusedSimpArgs false
namespace Go.Proofs.YtakfoidmabendaaDoor.Pay
open Go.RowKit Go.Proofs.YtakfoidmabendaaDoor.E
local notation "ob" => Ora.bit true
local notation "oc" => Ora.bit false
set_option maxRecDepth 100000 in
set_option maxHeartbeats 4000000 in
theorem puts_false_10 (k : Int) (u p x : ByteArray) (user : ByteArray) (a b c : ByteArray) (sec : Int) (hs : a.size + b.size + c.size ≤ 1000000000000000) (hc0 : (decide (IntKind.wrap IntKind.i64 (IntKind.wrap IntKind.i64 (IntKind.wrap IntKind.i64 (IntKind.wrap IntKind.i64 (IntKind.wrap IntKind.i64 (IntKind.wrap IntKind.i64 ((↑(ByteArray.size u) : Int) + (↑(ByteArray.size p) : Int)) + (↑(ByteArray.size x) : Int)) + (↑(ByteArray.size user) : Int)) + (↑(ByteArray.size a) : Int)) + (↑(ByteArray.size b) : Int)) + (↑(ByteArray.size c) : Int)) > (10000 : Int))) = false) (hc1 : (k == (1 : Int)) = false) (hc2 : (k == (2 : Int)) = false) (hc3 : (k == (3 : Int)) = false) (hc4 : (k == (4 : Int)) = false) (hc5 : (k == (5 : Int)) = false) (hc6 : (k == (6 : Int)) = false) (hc7 : (k == (7 : Int)) = false) (hc8 : (k == (8 : Int)) = false) (w : World) :
    Calls Tryd.prog 5 #[.agg #[.int .i64 k, .string u, .string p, .string x], .bool false, .string user, .agg #[.string a, .string b, .string c], .int .i64 sec] w fun e w' => e = .returned (.bool true) ∧ Below w.heap.size w w' := by
  have hint41 : ∀ Fr, PureC Tryd.prog Fr 41 #[.agg #[.string a, .string b, .string c]] (.string (Jp a b c)) := fun Fr => pure_of (JPut_any a b c hs)
  have hint44 : ∀ Fr, PureC Tryd.prog Fr 44 #[.agg #[.string a, .string b, .string c]] (.string (Jp a b c)) := fun Fr => pure_of (RPut_any a b c hs)
  have hc9 : (!ByteArray.toList user == ByteArray.toList user) = false := by first | (simp; done) | (simp_all; done)
  have hc10 : (!ByteArray.toList (Jp a b c) == ByteArray.toList (Jp a b c)) = false := by first | (simp; done) | (simp_all; done)
  have hc11 : (!ByteArray.toList ⟨(hd sec :: tl sec).toArray⟩ == ByteArray.toList (ByteArray.mk #[])) = true := by first | (simp; done) | (simp_all; done)
  have hc12 : (!(ByteArray.toList (ByteArray.mk #[115, 101, 99, 111, 110, 100, 115]) == ByteArray.toList (ByteArray.mk #[115, 101, 99, 111, 110, 100, 115]) && (ByteArray.toList ⟨(hd sec :: tl sec).toArray⟩ == ByteArray.toList ⟨(hd sec :: tl sec).toArray⟩ && true))) = false := by first | (simp; done) | (simp_all; done)
  exact calls_out (P := Tryd.prog) (st := false) (K := KP) mixed KP_ok (G := 64) (cf := 100000) (n := 60) (f := 5) (v := Value.bool true) (ora := [(15, oc), (2, oc), (1, oc), (1, oc), (1, oc), (1, oc), (1, oc), (1, oc), (1, oc), (2, oc), (1, oc), (1, oc), (1, oc), (1, oc), (1, oc), (1, oc), (1, oc), (184, oc), (0, oc), (0, oc), (0, oc), (0, oc), (0, oc), (0, oc), (1, oc), (224, Ora.val (Value.string (Jp a b c))), (10, Ora.val (Value.string (Jp a b c))), (65, oc), (0, oc), (0, oc), (0, oc), (0, oc), (0, oc), (0, oc), (1, oc), (374, ob), (12, ob), (43, oc)]) (fun Fr => by kernel_rfl) (fun Fr => all_cons hc0 (all_cons hc1 (all_cons hc2 (all_cons hc3 (all_cons hc4 (all_cons hc5 (all_cons hc6 (all_cons hc7 (all_cons hc8 (all_cons hc1 (all_cons hc2 (all_cons hc3 (all_cons hc4 (all_cons hc5 (all_cons hc6 (all_cons hc7 (all_cons hc8 (all_cons hc9 (all_cons hc9 (all_cons hc9 (all_cons hc9 (all_cons hc9 (all_cons hc9 (all_cons hc9 (all_cons hc9 (all_cons (hint41 Fr) (all_cons (hint44 Fr) (all_cons hc10 (all_cons hc10 (all_cons hc10 (all_cons hc10 (all_cons hc10 (all_cons hc10 (all_cons hc10 (all_cons hc10 (all_cons hc11 (all_cons hc11 (all_cons hc12 (all_nil))))))))))))))))))))))))))))))))))))))) rfl rfl w
end Go.Proofs.YtakfoidmabendaaDoor.Pay
