/- Contracts of functions of this translation, and what they come to; what is not used is left out. -/
import Derived.Test.YtpjkbamkaicoiaaDoorUg8p0

section
/- Known calls whose arguments hold names from ahead. -/
set_option linter.unusedVariables false
set_option linter.unusedSimpArgs false
namespace Go.Proofs.YtpjkbamkaicoiaaDoor.E
open Go.RowKit
/-- What a value stands for that holds names from ahead. -/
def real (ext : Nat → Option Place) : Nat → Value → Value
  | n + 1, .agg a => .agg ⟨a.toList.map (real ext n)⟩
  | _, .chan (some k) => match ext k with
    | some p => p.v
    | none => .chan (some k)
  | _, v => v
def ready (ext : Nat → Option Place) : Nat → Value → Bool
  | n + 1, .agg a => a.toList.all (ready ext n)
  | _, .chan (some k) => (ext k).isSome
  | _, .int _ _ => true
  | _, .bool _ => true
  | _, .string _ => true
  | _, _ => false
theorem real_eq {ext : Nat → Option Place} {σ : Nm} (hs : Sub ext σ) : ∀ (n : Nat) (v r : Value), ready ext n v = true → VR σ v r → r = real ext n v := by
  intro n
  induction n with
  | zero =>
    intro v r hr h
    cases h with
    | bool => rfl
    | int => rfl
    | string => rfl
    | @opq k q hq _ =>
      have hk : (ext k).isSome = true := hr
      obtain ⟨p, hp⟩ := Option.isSome_iff_exists.1 hk
      rw [hs _ _ hp] at hq
      obtain rfl := Option.some.inj hq
      simp [real, hp]
    | _ => exact absurd hr (by simp [ready])
  | succ n ih =>
    intro v r hr h
    cases h with
    | bool => rfl
    | int => rfl
    | string => rfl
    | @opq k q hq _ =>
      have hk : (ext k).isSome = true := hr
      obtain ⟨p, hp⟩ := Option.isSome_iff_exists.1 hk
      rw [hs _ _ hp] at hq
      obtain rfl := Option.some.inj hq
      simp [real, hp]
    | @agg a b hsz hf =>
      simp only [real, Value.agg.injEq]
      refine Array.ext' ?_
      refine List.ext_getElem? fun i => ?_
      rw [List.getElem?_map]
      simp only [Array.getElem?_toList]
      cases ha : a[i]? with
      | none =>
        have : b[i]? = none := by
          rw [Array.getElem?_eq_none_iff] at ha ⊢
          omega
        rw [this]; rfl
      | some x =>
        have hl : i < b.size := by
          have := (Array.getElem?_eq_some_iff.1 ha).1; omega
        have hb : b[i]? = some b[i] := Array.getElem?_eq_getElem hl
        rw [hb]
        refine congrArg some (ih x _ ?_ (hf i x _ ha hb))
        exact List.all_eq_true.1 hr x (Array.mem_toList_iff.2 (Array.mem_of_getElem? ha))
    | _ => exact absurd hr (by simp [ready])
/-- What a call answers in every world that keeps the first one's blocks, of arguments with names from ahead. -/
theorem pureX {P : Program} {f : FuncId} {args : Array Value} {v : Value} {w : World} {ext : Nat → Option Place} (h : ∀ w' : World, (∀ b, b < w.heap.size → w'.heap[b]? = w.heap[b]?) → Calls P f ⟨args.toList.map (real ext 6)⟩ w' fun e w'' => e = .returned v ∧ Below w'.heap.size w' w'') (hp : plain 6 v = true := by rfl) (ha : args.toList.all (ready ext 6) = true := by rfl) : PureC P (protX w ext) f args v := by
  intro σ args' hs hA w' hw
  have : args' = ⟨args.toList.map (real ext 6)⟩ := by
    refine Array.ext' (List.ext_getElem? fun i => ?_)
    rw [List.getElem?_map]
    simp only [Array.getElem?_toList]
    cases hx : args[i]? with
    | none =>
      have : args'[i]? = none := by
        rw [Array.getElem?_eq_none_iff] at hx ⊢
        have := hA.1; omega
      rw [this]; rfl
    | some x =>
      have hl : i < args'.size := by
        have := (Array.getElem?_eq_some_iff.1 hx).1
        have := hA.1; omega
      have hb : args'[i]? = some args'[i] := Array.getElem?_eq_getElem hl
      rw [hb]
      refine congrArg some (real_eq hs 6 x _ ?_ (hA.2 i x _ hx hb))
      exact List.all_eq_true.1 ha x (Array.mem_toList_iff.2 (Array.mem_of_getElem? hx))
  subst this
  refine Calls.mono (h w' fun b hb => ?_) fun e w'' he => ?_
  · have := hw b hb
    rw [this]
    simp [protX, hb]
  · obtain ⟨rfl, hb⟩ := he
    exact ⟨plain_refl 6 v hp, hb⟩
theorem vr_real {ext : Nat → Option Place} (hx : ∀ k p, ext k = some p → (match p.v with | .agg _ | .tuple _ | .bool _ => false | _ => true) = true) : ∀ (n : Nat) (v : Value), ready ext n v = true → VR ext v (real ext n v) := by
  have hopq : ∀ k, (ext k).isSome = true → VR ext (.chan (some k)) (match ext k with | some p => p.v | none => .chan (some k)) := fun k hk => by
    obtain ⟨p, hp⟩ := Option.isSome_iff_exists.1 hk
    rw [hp]
    exact .opq hp (hx k p hp)
  intro n
  induction n with
  | zero =>
    intro v hr
    cases v with
    | bool b => exact .bool b
    | int k x => exact .int k x
    | string s => exact .string s
    | chan c =>
      cases c with
      | none => exact absurd hr (by simp [ready])
      | some k => exact hopq k hr
    | _ => exact absurd hr (by simp [ready])
  | succ n ih =>
    intro v hr
    cases v with
    | bool b => exact .bool b
    | int k x => exact .int k x
    | string s => exact .string s
    | chan c =>
      cases c with
      | none => exact absurd hr (by simp [ready])
      | some k => exact hopq k hr
    | agg a =>
      refine .agg (by simp) fun i v r hv hrr => ?_
      have hv' : a.toList[i]? = some v := by rw [Array.getElem?_toList]; exact hv
      have h1 : (a.toList.map (real ext n))[i]? = some r := by rw [← hrr]; simp
      rw [List.getElem?_map, hv'] at h1
      obtain rfl := Option.some.inj h1
      exact ih v (List.all_eq_true.1 hr v (Array.mem_toList_iff.2 (Array.mem_of_getElem? hv)))
    | _ => exact absurd hr (by simp [ready])
theorem ar_real {ext : Nat → Option Place} {args : Array Value} (hx : ∀ k p, ext k = some p → (match p.v with | .agg _ | .tuple _ | .bool _ => false | _ => true) = true) (ha : args.toList.all (ready ext 6) = true := by rfl) : AR ext args ⟨args.toList.map (real ext 6)⟩ := by
  refine ⟨by simp, fun i v r hv hr => ?_⟩
  have hv' : args.toList[i]? = some v := by rw [Array.getElem?_toList]; exact hv
  have h1 : (args.toList.map (real ext 6))[i]? = some r := by rw [← hr]; simp
  rw [List.getElem?_map, hv'] at h1
  obtain rfl := Option.some.inj h1
  exact vr_real hx 6 v (List.all_eq_true.1 ha v (Array.mem_toList_iff.2 (Array.mem_of_getElem? hv)))
/-- As calls_ext; what is needed is told so that the list is found by unification. -/
theorem calls_extF {P : Program} {st : Bool} (hm : P.follows .mixedOrders = true) {K : FuncId → Array Value → Option Value} (hK : ∀ f a v, K f a = some v → ∀ w, Calls P f a w fun e w' => e = .returned v ∧ Below w.heap.size w w') {G X cf n : Nat} {f : FuncId}
    {args real : Array Value} {v : Value} {p : Prot → List Prop} {ora : List (Nat × Ora)} {w : World} {ext : Nat → Option Place} (h : ∀ Fr, outcX P st K Fr G X cf n f args .leaf ora = some (v, p Fr)) (hn : ∀ Fr, Fr = protX w ext → All (p Fr)) (hp : plain 6 v = true)
    (he : ∀ n p, ext n = some p → G ≤ n ∧ n < G + X) (hA : AR ext args real) :
    Calls P f real w fun e w' => e = .returned v ∧ Below w.heap.size w w' :=
  calls_ext hm hK h (hn _ rfl) hp he hA (rel_leafX fun n p h => (he n p h).1)
end Go.Proofs.YtpjkbamkaicoiaaDoor.E
end
