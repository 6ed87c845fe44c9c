/- Two calls, the second one's first argument the first one's answer. -/
import Derived.Test.YtakfoidmabendaaDoorEvR
set_option linter.unusedVariables false
set_option linter.unusedSimpArgs false
namespace Go.Proofs.YtakfoidmabendaaDoor.E
open Go.RowKit
/-- The second call's answer, and what both need. -/
def outc2 (P : Program) (st : Bool) (K : FuncId → Array Value → Option Value) (Fr : Prot) (G cf n : Nat) (f : FuncId) (args : Array Value) (g : FuncId) (more : Array Value) (ora : List (Nat × Ora)) : Option (Value × List Prop) :=
  match callE P st Fr G cf K n f args .leaf ⟨G, ora⟩ with
  | some ⟨v, H, s, _, p⟩ => match callE P st Fr G cf K n g (#[v] ++ more) H s with
    | some ⟨v₂, _, _, _, p₂⟩ => some (v₂, p ++ p₂)
    | none => none
  | none => none
theorem calls_out2 {P : Program} {st : Bool} (hm : P.follows .mixedOrders = true) {K : FuncId → Array Value → Option Value} (hK : ∀ f a v, K f a = some v → ∀ w, Calls P f a w fun e w' => e = .returned v ∧ Below w.heap.size w w') {G cf n : Nat} {f g : FuncId}
    {args more : Array Value} {v : Value} {p : Prot → List Prop} {ora : List (Nat × Ora)} (h : ∀ Fr, outc2 P st K Fr G cf n f args g more ora = some (v, p Fr)) (hn : ∀ Fr, All (p Fr)) (hp : plain 6 v = true) (ha : args.toList.all (plain 6) = true) (hmo : more.toList.all (plain 6) = true) (w : World) :
    Calls P f args w fun e w₁ => ∃ x, e = .returned x ∧ Below w.heap.size w w₁ ∧ Calls P g (#[x] ++ more) w₁ fun e w₂ => e = .returned v ∧ Below w.heap.size w w₂ := by
  have h := h (protOf w)
  have hn := hn (protOf w)
  unfold outc2 at h
  cases hr : callE P st (protOf w) G cf K n f args .leaf ⟨G, ora⟩ with
  | none => simp [hr] at h
  | some r =>
    obtain ⟨v₁, H₁, s₁, lg, p₁⟩ := r
    simp only [hr] at h
    cases hr₂ : callE P st (protOf w) G cf K n g (#[v₁] ++ more) H₁ s₁ with
    | none => simp [hr₂] at h
    | some r₂ =>
      obtain ⟨v₂, H₂, s₂, lg₂, p₂⟩ := r₂
      simp only [hr₂, Option.some.injEq, Prod.mk.injEq] at h
      obtain ⟨rfl, hp'⟩ := h
      rw [← hp'] at hn
      have hK' : ∀ f a v, K f a = some v → PureC P (protOf w) f a v := fun f a v hv w _ => (hK f a v hv w).mono fun e w' he => by
        obtain ⟨rfl, hb⟩ := he; exact ⟨rfl, hb⟩
      have hR : Rel P (protOf w) G (nmOf G) .leaf w := by
        refine ⟨fun g hg => ⟨0, by simp [nmOf, hg]⟩, fun n B hB => by simp [Tr.get] at hB, fun n m B C p q hB => by simp [Tr.get] at hB, fun b hb => ?_⟩
        have hb : b < w.heap.size := hb
        simp [protOf, hb]
      have hc := callsOk (P := P) (st := st) (Fr := protOf w) (G := G) hm cf (K := K) hK' n
      have h1 := hc.2 (nmOf G) f args args (ar_plain ha) .leaf ⟨G, ora⟩ _ w hr (all_app hn).1 hR (fun k hk => by have : G ≤ k := hk.1; simp [nmOf]; omega) (Nat.le_refl _)
      refine Calls.mono h1 fun e w₁ he => ?_
      cases e with
      | returned y =>
        obtain ⟨τ, ha1, hR1, hO, hv⟩ := he
        simp only at ha1 hR1 hv
        have hb : Below w.heap.size w w₁ := ⟨hO.os, hO.tape, hO.output, hO.size, fun k hk => hO.block k hk⟩
        refine ⟨y, rfl, hb, ?_⟩
        have hm1 : G ≤ s₁.name := (hc.1 f args).mono _ _ _ hr
        have hm2 : s₁.name ≤ s₂.name := (hc.1 g _).mono _ _ _ hr₂
        have har : AR τ (#[v₁] ++ more) (#[y] ++ more) := AR.append ⟨rfl, fun i v r hv' hr' => by
          cases i with
          | zero => simp at hv' hr'; subst hv' hr'; exact hv
          | succ i => simp at hv'⟩ (ar_plain hmo)
        have h2 := hc.2 τ g _ _ har H₁ s₁ _ w₁ hr₂ (all_app hn).2 hR1 (fun k hk => ha1.none (by have : s₁.name ≤ k := hk.1; simp [nmOf]; omega) (fun q => by have h1 : k < s₁.name := q.2; have h2 : s₁.name ≤ k := hk.1; omega)) hm1
        refine Calls.mono h2 fun e w₂ he => ?_
        cases e with
        | returned z =>
          obtain ⟨υ, _, _, hO2, hv2⟩ := he
          have := plain_eq 6 _ z hp hv2
          subst this
          have hO3 := hO.trans hO2
          exact ⟨rfl, hO3.os, hO3.tape, hO3.output, hO3.size, fun k hk => hO3.block k hk⟩
        | _ => exact he.elim
      | _ => exact he.elim
end Go.Proofs.YtakfoidmabendaaDoor.E
