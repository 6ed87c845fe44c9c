/- What is known of digits, of an address's text, and of the law's first line. -/
import Derived.Test.YtakfoidmabendaaDoorPayB
import Derived.Test.YtakfoidmabendaaDoorPayC
import Derived.Test.YtakfoidmabendaaDoorPayL
set_option linter.unusedVariables false
set_option linter.unusedSimpArgs false
namespace Go.Proofs.YtakfoidmabendaaDoor.Pay
open Go.RowKit Go.Proofs.YtakfoidmabendaaDoor.E
def ob : Ora := .bit true
def oc : Ora := .bit false
def KP (f : FuncId) (a : Array Value) : Option Value := match Nat.beq f 7 with
  | true => match a.toList with
    | [] => some (.bool true)
    | _ => none
  | false => match Nat.beq f 42 || Nat.beq f 46 with
    | true => match a.toList with
      | [.int .i64 n] => some (.string ⟨(hd n :: tl n).toArray⟩)
      | _ => none
    | false => none
theorem KP_ok (f : FuncId) (a : Array Value) (v : Value) (h : KP f a = some v) (w : World) : Calls Tryd.prog f a w fun e w' => e = .returned v ∧ Below w.heap.size w w' := by
  unfold KP at h
  split at h
  · rename_i hf
    have hf : f = 7 := Nat.eq_of_beq_eq_true hf
    subst hf
    split at h <;> try (cases h; done)
    rename_i ha
    simp only [Option.some.injEq] at h
    subst h
    obtain rfl : a = #[] := Array.ext' ha
    exact live_any w
  · split at h <;> try (cases h; done)
    rename_i hf
    split at h <;> try (cases h; done)
    rename_i n ha
    simp only [Option.some.injEq] at h
    subst h
    obtain rfl : a = #[.int .i64 n] := Array.ext' ha
    simp only [Bool.or_eq_true] at hf
    rcases hf with hf | hf
    · have hf : f = 42 := Nat.eq_of_beq_eq_true hf
      subst hf
      exact digits_any n w
    · have hf : f = 46 := Nat.eq_of_beq_eq_true hf
      subst hf
      exact RDigits_any n w
theorem pure_of {Fr : Prot} {f : FuncId} {args : Array Value} {v : Value} (h : ∀ w, Calls Tryd.prog f args w fun e w' => e = .returned v ∧ Below w.heap.size w w') : PureC Tryd.prog Fr f args v :=
  fun w _ => (h w).mono fun e w' he => by obtain ⟨rfl, hb⟩ := he; exact ⟨rfl, hb⟩
end Go.Proofs.YtakfoidmabendaaDoor.Pay
