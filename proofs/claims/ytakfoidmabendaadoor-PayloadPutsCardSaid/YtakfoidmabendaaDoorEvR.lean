/- Without anything known ahead nothing is asked; a call in whatever world. -/
import Derived.Test.YtakfoidmabendaaDoorEvQ
set_option linter.unusedVariables false
set_option linter.unusedSimpArgs false
set_option linter.unusedSectionVars false
namespace Go.Proofs.YtakfoidmabendaaDoor.E
open Go.RowKit

def Calm {α : Type} (e : Ev α) : Prop := ∀ H nm r, e H ⟨nm, []⟩ = some r → All r.need ∧ r.sup.ora = []
theorem calm_pure {α : Type} (a : α) : Calm (Ev.pure a) := by intro H nm r h; simp only [Ev.pure, Option.some.injEq] at h; subst h; exact ⟨all_nil, rfl⟩
theorem calm_fail {α : Type} : Calm (Ev.fail (α := α)) := by intro H nm r h; simp [Ev.fail] at h
theorem calm_bind {α β : Type} {e : Ev α} {f : α → Ev β} (he : Calm e) (hf : ∀ a, Calm (f a)) : Calm (e.bind f) := by
  intro H nm r h
  obtain ⟨r₁, r₂, h₁, h₂, rfl⟩ := bind_eq h
  obtain ⟨n₁, o₁⟩ := he _ _ _ h₁
  obtain ⟨a, H₁, ⟨nm₁, l₁⟩, lg, p⟩ := r₁
  simp only at o₁ h₂
  subst o₁
  obtain ⟨n₂, o₂⟩ := hf _ _ _ _ h₂
  exact ⟨app_all n₁ n₂, o₂⟩
theorem calm_ask {α : Type} {f : Ora → Ev α} (h : Calm (f .calc)) : Calm (ask.bind f) := by
  intro H nm r hr
  obtain ⟨r₁, r₂, h₁, h₂, rfl⟩ := bind_eq hr
  simp only [ask, Option.some.injEq] at h₁
  subst h₁
  obtain ⟨n, o⟩ := h _ _ _ h₂
  exact ⟨app_all all_nil n, o⟩
theorem calm_rd (n o : Nat) : Calm (rd n o) := by
  intro H nm r h
  unfold rd at h
  split at h
  · simp only [Option.some.injEq] at h; subst h; exact ⟨all_nil, rfl⟩
  · cases h
theorem calm_wr (n o : Nat) (v : Value) : Calm (wr n o v) := by
  intro H nm r h
  obtain ⟨B, _, _, _, rfl⟩ := wr_eq h
  exact ⟨all_nil, rfl⟩
theorem calm_new (B : Blk) : Calm (new B) := by
  intro H nm r h
  rw [new_eq, Option.some.injEq] at h
  subst h; exact ⟨all_nil, rfl⟩
theorem calm_kill (n : Nat) : Calm (kill n) := by
  intro H nm r h
  obtain ⟨B, _, _, rfl⟩ := kill_eq h
  exact ⟨all_nil, rfl⟩
theorem calm_rds (n : Nat) : ∀ (k o : Nat), Calm (rds n o k)
  | 0, o => calm_pure _
  | k + 1, o => calm_bind (calm_rd n o) fun v => calm_bind (calm_rds n k (o + 1)) fun l => calm_pure _
theorem calm_wrs (n : Nat) : ∀ (l : List Value) (o : Nat), Calm (wrs n o l)
  | [], o => calm_pure _
  | v :: l, o => calm_bind (calm_wr n o v) fun _ => calm_wrs n l (o + 1)
theorem calm_newSoft (elem : TypeId) (cells : List Value) (need : Nat) : Calm (newSoft elem cells need) := calm_bind (calm_new _) fun _ => calm_pure _
theorem calm_valE {e : Ev Value} (h : Calm e) : Calm (valE e) := calm_bind h fun _ => calm_pure _
theorem calm_loadE (P : Program) (t : TypeId) (n o : Nat) : Calm (loadE P t n o) := by
  unfold loadE
  (repeat' split) <;> first | exact calm_bind (calm_rds _ _ _) fun _ => calm_pure _ | exact calm_rd _ _ | exact calm_fail
theorem calm_storeE (P : Program) (t : TypeId) (n o : Nat) (v : Value) : Calm (storeE P t n o v) := by
  unfold storeE
  (repeat' split) <;> first | exact calm_wrs _ _ _ | exact calm_fail
theorem calm_newE (t : TypeId) (v : Value) : Calm (newE t v) := calm_bind (calm_new _) fun _ => calm_pure _
theorem calm_buildE (P : Program) (t : TypeId) (parts : Array (Nat × Value)) : Calm (buildE P t parts) := by
  unfold buildE
  (repeat' split) <;> first | exact calm_pure _ | exact calm_fail
theorem calm_buildSliceE (P : Program) (t : TypeId) (len : Nat) (parts : Array (Nat × Value)) : Calm (buildSliceE P t len parts) := by
  unfold buildSliceE
  (repeat' split) <;> first | exact calm_bind (calm_new _) fun _ => calm_pure _ | exact calm_fail
theorem calm_fieldAddrE (P : Program) (s : TypeId) (a : Value) (k : Nat) : Calm (fieldAddrE P s a k) := by
  unfold fieldAddrE
  (repeat' split) <;> first | exact calm_pure _ | exact calm_fail
theorem calm_indexAddrE (P : Program) (t : TypeId) (x ix : Value) : Calm (indexAddrE P t x ix) := by
  unfold indexAddrE
  (repeat' split) <;> first | exact calm_pure _ | exact calm_fail
theorem calm_partE (P : Program) (t : TypeId) (cs : Array Value) (off : Nat) : Calm (partE P t cs off) := by
  unfold partE
  (repeat' split) <;> first | exact calm_pure _ | exact calm_fail
theorem calm_readsE (size : Nat) (v : Value) : Calm (readsE size v) := by
  unfold readsE
  (repeat' split) <;> first | exact calm_bind (calm_rds _ _ _) fun _ => calm_pure _ | exact calm_pure _ | exact calm_fail
theorem calm_firstE (size n : Nat) (v : Value) : Calm (firstE size n v) := by
  unfold firstE
  (repeat' split) <;> first | exact calm_rds _ _ _ | exact calm_pure _ | exact calm_fail
theorem calm_appendE (P : Program) (t u : TypeId) (s x : Value) : Calm (appendE P t u s x) := by
  unfold appendE
  split <;> try exact calm_fail
  split <;> try exact calm_fail
  split <;> try exact calm_fail
  split <;> try exact calm_fail
  refine calm_bind (calm_readsE _ _) fun q => ?_
  split <;> try exact calm_fail
  split <;> try exact calm_fail
  · split
    · exact calm_pure _
    · exact calm_newSoft _ _ _
  · split <;> try exact calm_fail
    split
    · split
      · exact calm_bind (calm_wrs _ _ _) fun _ => calm_pure _
      · exact calm_bind (calm_rds _ _ _) fun _ => calm_newSoft _ _ _
    · split
      · exact calm_pure _
      · refine calm_bind (calm_kill _) fun B => ?_
        split
        · exact calm_newSoft _ _ _
        · exact calm_fail
theorem calm_sliceE (P : Program) (t : TypeId) (x : Value) (lo hi : Option Value) : Calm (sliceE P t x lo hi) := by
  unfold sliceE
  (repeat' split) <;> first | exact calm_pure _ | exact calm_fail
theorem calm_lenE (P : Program) (t : TypeId) (x : Value) : Calm (lenE P t x) := by
  unfold lenE
  (repeat' split) <;> first | exact calm_pure _ | exact calm_fail
theorem calm_eqE (P : Program) (neg : Bool) (t : TypeId) (x y : Value) : Calm (eqE P neg t x y) := by
  unfold eqE
  (repeat' split) <;> first | exact calm_pure _ | exact calm_fail
theorem calm_copyE (P : Program) (t : TypeId) (d s : Value) : Calm (copyE P t d s) := by
  unfold copyE
  split <;> try exact calm_fail
  split <;> try exact calm_fail
  refine calm_bind (calm_firstE _ _ _) fun l => ?_
  split
  · exact calm_bind (calm_wrs _ _ _) fun _ => calm_pure _
  · exact calm_fail
theorem calm_convE (P : Program) (src dst : TypeId) (x : Value) : Calm (convE P src dst x) := by
  unfold convE
  split <;> try exact calm_fail
  · split <;> try exact calm_fail
    refine calm_bind (calm_rds _ _ _) fun l => ?_
    split <;> first | exact calm_pure _ | exact calm_fail
  · split <;> try exact calm_fail
    split <;> first | exact calm_newSoft _ _ _ | exact calm_fail
theorem calm_makeE (P : Program) (t : TypeId) (l c : Value) : Calm (makeE P t l c) := by
  unfold makeE
  (repeat' split) <;> first | exact calm_bind (calm_new _) fun _ => calm_pure _ | exact calm_fail
theorem calm_plainNext (n : Next) : Calm (plainNext n) := by
  unfold plainNext
  (repeat' split) <;> first | exact calm_pure _ | exact calm_fail
theorem calm_plainOp (P : Program) (ρ : Operand → Value) (o : Oper) : Calm (plainOp P ρ o) := by
  unfold plainOp
  split
  · refine calm_ask ?_
    show Calm (match runPlain P (execOp ρ o) with | some n => plainNext n | none => .fail)
    split
    · exact calm_plainNext _
    · exact calm_fail
  · exact calm_fail
theorem calm_catE (a b : ByteArray) (S : Sem Next) (P : Program) : Calm (catE a b S P) := by
  refine calm_ask ?_
  show Calm (match runPlain P S with | some n => plainNext n | none => .fail)
  split
  · exact calm_plainNext _
  · exact calm_fail
theorem calm_opE (P : Program) (ρ : Operand → Value) (o : Oper) : Calm (opE P ρ o) := by
  unfold opE
  split
  · exact calm_pure _
  · exact calm_pure _
  · unfold pickE
    split
    · exact calm_ask (calm_pure _)
    · exact calm_fail
  · unfold allocE
    (repeat' split) <;> first | exact calm_valE (calm_newE _ _) | exact calm_fail
  · exact calm_valE (calm_newE _ _)
  · exact calm_valE (calm_buildE _ _ _)
  · exact calm_valE (calm_buildSliceE _ _ _ _)
  · unfold loadO
    split
    · exact calm_valE (calm_loadE _ _ _ _)
    · exact calm_fail
  · unfold storeO
    split
    · exact calm_bind (calm_storeE _ _ _ _ _) fun _ => calm_pure _
    · exact calm_fail
  · split <;> first | exact calm_pure _ | exact calm_plainOp _ _ _
  · split <;> first | exact calm_valE (calm_eqE _ _ _ _ _) | (unfold binO; (repeat' split) <;> first | exact calm_pure _ | exact calm_plainOp _ _ _ | exact calm_catE _ _ _ _)
  · split <;> first | exact calm_plainOp _ _ _ | exact calm_valE (calm_sliceE _ _ _ _ _)
  · exact calm_valE (calm_fieldAddrE _ _ _ _)
  · refine calm_valE ?_
    unfold fieldE
    (repeat' split) <;> first | exact calm_partE _ _ _ _ | exact calm_fail
  · exact calm_valE (calm_indexAddrE _ _ _ _)
  · split
    · refine calm_valE ?_
      unfold indexE
      (repeat' split) <;> first | exact calm_partE _ _ _ _ | exact calm_fail
    · exact calm_plainOp _ _ _
  · unfold extractE
    (repeat' split) <;> first | exact calm_pure _ | exact calm_fail
  · (repeat' split) <;> first | exact calm_valE (calm_convE _ _ _ _) | exact calm_plainOp _ _ _
  · exact calm_valE (calm_makeE _ _ _ _)
  · unfold ifaceE
    (repeat' split) <;> first | exact calm_pure _ | exact calm_fail
  · exact calm_pure _
  · (repeat' split) <;> first | exact calm_valE (calm_appendE _ _ _ _ _) | exact calm_valE (calm_copyE _ _ _ _) | exact calm_valE (calm_lenE _ _ _) | exact calm_pure _ | exact calm_plainOp _ _ _ | exact calm_fail
  · exact calm_plainOp _ _ _
theorem calm_wantedE (ops : Array Oper) (o : Oper) (t : List Value) : Calm (wantedE ops o t) := by
  unfold wantedE
  (repeat' split) <;> first | exact calm_pure _ | exact calm_ask (calm_pure _)
section
variable {P : Program} {st : Bool} {callF : FuncId → Array Value → Ev Value} (hc : ∀ f a, Calm (callF f a))
include hc
theorem calm_stepVal (ops : Array Oper) (i : Nat) (t : List Value) : Calm (stepVal P callF st ops i t) := by
  unfold stepVal
  split
  · exact calm_pure _
  · refine calm_bind (calm_wantedE _ _ _) fun b => ?_
    split
    · rw [opC_eq]
      refine calm_bind (calm_opE _ _ _) fun n => ?_
      split
      · exact calm_pure _
      · exact hc _ _
    · exact calm_pure _
theorem calm_putE (dp : Bool) (l : List Value) (d : Option Tmp) (v : Value) : Calm (putE st dp l d v) := by rw [putE_eq]; exact calm_pure _
theorem calm_logged {α : Type} {e : Ev α} (h : Calm e) : Calm (logged e) := by
  intro H nm r hr
  unfold logged at hr
  cases h₁ : e H ⟨nm, []⟩ with
  | none => simp [h₁] at hr
  | some q =>
    obtain ⟨a, H', s', l, p⟩ := q
    simp only [h₁, Option.some.injEq] at hr
    subst hr
    exact h _ _ _ h₁
theorem calm_regL (ops : Array Oper) : ∀ (l : List Nat) (t : List Value), Calm (regL P st callF ops l t)
  | [], t => calm_pure _
  | i :: l, t => calm_bind (calm_stepVal hc _ _ _) fun v => calm_bind (calm_putE hc _ _ _ _) fun t' => calm_regL ops l t'
theorem calm_regD (ops : Array Oper) : ∀ (l : List Nat) (t : List Value), Calm (regD P st callF ops l t)
  | [], t => calm_pure _
  | i :: l, t => calm_bind (calm_logged hc (calm_stepVal hc _ _ _)) fun q => calm_bind (calm_putE hc _ _ _ _) fun t' => calm_bind (calm_regD ops l t') fun z => calm_pure _
theorem calm_regionE (G : Nat) (ops : Array Oper) (draw : Bool) (t : List Value) : Calm (regionE P st callF G ops draw t) := by
  unfold regionE
  split
  · exact calm_fail
  · split
    · exact calm_regL hc _ _ _
    · split
      · exact calm_fail
      · refine calm_bind (calm_regD hc _ _ _) fun z => ?_
        split <;> first | exact calm_pure _ | exact calm_fail
theorem calm_codeE (G : Nat) : ∀ (n : Nat) (c : Code) (t : List Value), Calm (codeE P st G callF n c t) := by
  intro n
  induction n with
  | zero => intro c t; exact calm_fail
  | succ n ih =>
    intro c t
    unfold codeE
    split
    · exact calm_pure _
    · exact calm_pure _
    · exact calm_bind (calm_regionE hc _ _ _ _) fun _ => calm_pure _
    · refine calm_bind (ih _ _) fun q => ?_
      split
      · exact ih _ _
      · exact calm_pure _
    · split
      · refine calm_ask ?_
        show Calm (match _ with | true => codeE P st G callF n _ _ | false => codeE P st G callF n _ _)
        split <;> exact ih _ _
      · exact calm_fail
    · refine calm_bind (ih _ _) fun q => ?_
      (repeat' split) <;> exact calm_pure _
    · refine calm_bind (ih _ _) fun q => ?_
      split
      · exact ih _ _
      · exact calm_pure _
    · exact calm_pure _
    · exact calm_pure _
    · exact calm_fail
end
theorem calm_resL (P : Program) (t : List Value) : ∀ l : List ResultVar, Calm (resL P t l)
  | [] => calm_pure _
  | .tmp k :: l => calm_bind (calm_resL P t l) fun _ => calm_pure _
  | .cell a ty :: l => by
    unfold resL
    split
    · exact calm_bind (calm_loadE _ _ _ _) fun _ => calm_bind (calm_resL P t l) fun _ => calm_pure _
    · exact calm_fail
theorem calm_callE (P : Program) (st : Bool) (Fr : Prot) (G cf : Nat) (K : FuncId → Array Value → Option Value) : ∀ (n : Nat) (f : FuncId) (a : Array Value), Calm (callE P st Fr G cf K n f a) := by
  intro n
  induction n with
  | zero => intro f a; exact calm_fail
  | succ n ih =>
    intro f a
    unfold callE
    refine calm_ask ?_
    show Calm (match K f a with | some v => _ | none => _)
    split
    · split <;> first | exact calm_pure _ | exact calm_fail
    split
    · split
      · refine calm_bind (calm_codeE ih _ _ _ _) fun q => ?_
        split
        · exact calm_fail
        · exact calm_bind (calm_resL _ _ _) fun _ => calm_pure _
      · exact calm_fail
    · exact calm_fail

/-- No block is protected by name; those below a number are. -/
def protOf (w : World) : Prot := ⟨fun b => b < w.heap.size, fun b => (w.heap[b]?).getD default⟩
def nmOf (G : Nat) : Nm := fun n => if n < G then some ⟨n, 0, 0⟩ else none
/-- The machine's answer, in short. -/
def answer (P : Program) (K : FuncId → Array Value → Option Value) (Fr : Prot) (G cf n : Nat) (f : FuncId) (args : Array Value) : Option Value :=
  match callE P true Fr G cf K n f args .leaf ⟨G, []⟩ with
  | some ⟨v, _, _, _, _⟩ => some v
  | none => none
theorem calls_answer {P : Program} (hm : P.follows .mixedOrders = true) {K : FuncId → Array Value → Option Value} (hK : ∀ f a v, K f a = some v → ∀ w, Calls P f a w fun e w' => e = .returned v ∧ Below w.heap.size w w') {G cf n : Nat} {f : FuncId} {args : Array Value} {v : Value} (h : ∀ Fr, answer P K Fr G cf n f args = some v) (hp : plain 6 v = true) (ha : args.toList.all (plain 6) = true) (w : World) :
    Calls P f args w fun e w' => e = .returned v ∧ Below w.heap.size w w' := by
  have h := h (protOf w)
  unfold answer at h
  cases hr : callE P true (protOf w) G cf K n f args .leaf ⟨G, []⟩ with
  | none => simp [hr] at h
  | some r =>
    simp only [hr, Option.some.injEq] at h
    obtain ⟨hn, _⟩ := calm_callE P true (protOf w) G cf K n f args _ _ _ hr
    have hR : Rel P (protOf w) G (nmOf G) .leaf w := by
      refine ⟨fun g hg => ⟨0, by simp [nmOf, hg]⟩, fun n B hB => by simp [Tr.get] at hB, fun n m B C p q hB => by simp [Tr.get] at hB, fun b hb => ?_⟩
      have hb : b < w.heap.size := hb
      simp [protOf, hb]
    have := (callsOk (P := P) (st := true) (Fr := protOf w) (G := G) hm cf (K := K) (fun f a v hv w _ => (hK f a v hv w).mono fun e w' he => by
      obtain ⟨rfl, hb⟩ := he; exact ⟨rfl, hb⟩) n).2 (nmOf G) f args args (ar_plain ha) .leaf ⟨G, []⟩ r w hr hn hR (fun k hk => by have : G ≤ k := hk.1; simp [nmOf]; omega) (Nat.le_refl _)
    refine Calls.mono this fun e w' he => ?_
    cases e with
    | returned y =>
      obtain ⟨τ, _, _, hO, hv⟩ := he
      rw [h] at hv
      have := plain_eq 6 v y hp hv
      subst this
      exact ⟨rfl, hO.os, hO.tape, hO.output, hO.size, fun k hk => hO.block k hk⟩
    | _ => exact he.elim
end Go.Proofs.YtakfoidmabendaaDoor.E
namespace Go.Proofs.YtakfoidmabendaaDoor.E
open Go.RowKit
theorem all_cons {p : Prop} {l : List Prop} (h : p) (k : All l) : All (p :: l) := fun q hq => by
  rcases List.mem_cons.1 hq with rfl | hq
  · exact h
  · exact k q hq
/-- The machine's answer, and what it needs. -/
def outc (P : Program) (st : Bool) (K : FuncId → Array Value → Option Value) (Fr : Prot) (G cf n : Nat) (f : FuncId) (args : Array Value) (ora : List (Nat × Ora)) : Option (Value × List Prop) :=
  match callE P st Fr G cf K n f args .leaf ⟨G, ora⟩ with
  | some ⟨v, _, _, _, p⟩ => some (v, p)
  | none => none
theorem calls_out {P : Program} {st : Bool} (hm : P.follows .mixedOrders = true) {K : FuncId → Array Value → Option Value} (hK : ∀ f a v, K f a = some v → ∀ w, Calls P f a w fun e w' => e = .returned v ∧ Below w.heap.size w w') {G cf n : Nat} {f : FuncId}
    {args : Array Value} {v : Value} {p : Prot → List Prop} {ora : List (Nat × Ora)} (h : ∀ Fr, outc P st K Fr G cf n f args ora = some (v, p Fr)) (hn : ∀ Fr, All (p Fr)) (hp : plain 6 v = true) (ha : args.toList.all (plain 6) = true) (w : World) :
    Calls P f args w fun e w' => e = .returned v ∧ Below w.heap.size w w' := by
  have h := h (protOf w)
  have hn := hn (protOf w)
  unfold outc at h
  cases hr : callE P st (protOf w) G cf K n f args .leaf ⟨G, ora⟩ with
  | none => simp [hr] at h
  | some r =>
    obtain ⟨v', Hh, s', lg, p'⟩ := r
    simp only [hr, Option.some.injEq, Prod.mk.injEq] at h
    obtain ⟨rfl, hp'⟩ := h
    rw [← hp'] at hn
    have hR : Rel P (protOf w) G (nmOf G) .leaf w := by
      refine ⟨fun g hg => ⟨0, by simp [nmOf, hg]⟩, fun n B hB => by simp [Tr.get] at hB, fun n m B C p q hB => by simp [Tr.get] at hB, fun b hb => ?_⟩
      have hb : b < w.heap.size := hb
      simp [protOf, hb]
    have := (callsOk (P := P) (Fr := protOf w) (G := G) hm cf (K := K) (fun f a v hv w _ => (hK f a v hv w).mono fun e w' he => by
      obtain ⟨rfl, hb⟩ := he; exact ⟨rfl, hb⟩) n).2 (nmOf G) f args args (ar_plain ha) .leaf ⟨G, ora⟩ _ w hr hn hR (fun k hk => by have : G ≤ k := hk.1; simp [nmOf]; omega) (Nat.le_refl _)
    refine Calls.mono this fun e w' he => ?_
    cases e with
    | returned y =>
      obtain ⟨τ, _, _, hO, hv⟩ := he
      have := plain_eq 6 v' y hp hv
      subst this
      exact ⟨rfl, hO.os, hO.tape, hO.output, hO.size, fun k hk => hO.block k hk⟩
    | _ => exact he.elim
end Go.Proofs.YtakfoidmabendaaDoor.E
