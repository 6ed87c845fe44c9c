/- Operations without addresses; loads, stores, new variables; places of fields and elements. -/
import Derived.Test.YtakfoidmabendaaDoorEvD
set_option linter.unusedVariables false
set_option linter.unusedSimpArgs false
namespace Go.Proofs.YtakfoidmabendaaDoor.E

/-- What a piece of the model's text answers without memory. -/
def runPlain {α : Type} (P : Program) : Sem α → Option α
  | .pure a => some a
  | .program k => runPlain P (k P)
  | .mark _ k => runPlain P k
  | _ => none
theorem run_plain {α : Type} (P : Program) : ∀ (S : Sem α) (a : α), runPlain P S = some a → ∀ w, S.run P w = .ok a w := by
  intro S
  induction S with
  | pure a => intro b h w; simp only [runPlain, Option.some.injEq] at h; subst h; rfl
  | program k ih => intro b h w; simp only [runPlain] at h; exact ih P b h w
  | mark m k ih => intro b h w; simp only [runPlain] at h; exact ih b h w
  | _ => intro b h; simp [runPlain] at h

inductive NR where
  | val (v : Value)
  | enter (f : FuncId) (args : Array Value)

def NRel (σ : Nm) : NR → Next → Prop
  | .val v, .value r => VR σ v r
  | .val v, .skip => v = undef
  | .enter f a, .enter g b => f = g ∧ AR σ a b
  | _, _ => False

def plainNext : Next → Ev NR
  | .value v => match plain 6 v with | true => .pure (.val v) | false => .fail
  | .skip => .pure (.val undef)
  | .enter f args => match args.toList.all (plain 6) with | true => .pure (.enter f args) | false => .fail
  | _ => .fail
def plainE (P : Program) (S : Sem Next) : Ev NR := ask.bind fun
  | .val v => match plain 6 v with
    | true => (need (runPlain P S = some (.value v))).bind fun _ => .pure (.val v)
    | false => .fail
  | _ => match runPlain P S with
    | some n => plainNext n
    | none => .fail

section
variable {P : Program} {Fr : Prot} {G : Nat} {σ : Nm}

theorem ar_plain {σ : Nm} {a : Array Value} {f : Nat} (h : a.toList.all (plain f) = true) : AR σ a a := by
  refine ⟨rfl, fun i v r hv hr => ?_⟩
  rw [hv] at hr; cases hr
  simp only [List.all_eq_true] at h
  exact plain_refl f v (h v (Array.mem_toList_iff.2 (Array.mem_of_getElem? hv)))
theorem framed_plainNext (n : Next) : Framed (plainNext n) := by
  unfold plainNext
  split
  · split <;> first | exact framed_pure _ | exact framed_fail
  · exact framed_pure _
  · split <;> first | exact framed_pure _ | exact framed_fail
  · exact framed_fail
theorem framed_plainE (P : Program) (S : Sem Next) : Framed (plainE P S) := by
  refine framed_bind framed_ask fun x => ?_
  split
  · split
    · exact framed_bind (framed_need _) fun _ => framed_pure _
    · exact framed_fail
  · split
    · exact framed_plainNext _
    · exact framed_fail

theorem sim_q {α β δ : Type} {e : Ev α} {A : Nm → α → δ → Prop} {S : Sem β} {g : β → Sem δ} {d : β} (hq : ∀ w, S.run P w = .ok d w) (h : Sim P Fr G σ e A (runS P (g d))) :
    Sim P Fr G σ e A (runS P (S.bind g)) := by
  intro H s r w hr hn hR hf hG
  obtain ⟨y, w', e, k⟩ := h H s r w hr hn hR hf hG
  exact ⟨y, w', by rw [Sem.run_bind', hq]; exact e, k⟩
/-- An answer that the model gives without memory. -/
theorem sim_run {α δ : Type} {a : α} {A : Nm → α → δ → Prop} {S : Sem δ} {d : δ} (hq : ∀ w, S.run P w = .ok d w) (h : A σ a d) : Sim P Fr G σ (Ev.pure a) A (runS P S) := by
  intro H s r w hr hn hR hf hG
  simp only [Ev.pure, Option.some.injEq] at hr
  subst hr
  exact ⟨d, w, hq w, σ, .refl .., hR, .refl .., h⟩
theorem sim_ask {α β : Type} {f : Ora → Ev α} {A : Nm → α → β → Prop} {run : World → (β → World → Prop) → Prop} (h : ∀ x, Sim P Fr G σ (f x) A run) : Sim P Fr G σ (ask.bind f) A run := by
  intro H s r w hr hn hR hf hG
  unfold Ev.bind at hr
  obtain ⟨n, l⟩ := s
  have key : ∀ x l', ask H ⟨n, l⟩ = some ⟨x, H, ⟨n, l'⟩, [], []⟩ → run w fun y w' => ∃ τ, Aft σ τ n r.sup.name ∧ Rel P Fr G τ r.hp w' ∧ Out Fr w w' ∧ A τ r.val y := by
    intro x l' hx
    rw [hx] at hr
    simp only at hr
    cases h1 : f x H ⟨n, l'⟩ with
    | none => simp [h1] at hr
    | some q => obtain ⟨a, H₁, s₁, lg, p₁⟩ := q; simp only [h1, Option.some.injEq] at hr; subst hr; exact h _ H ⟨n, l'⟩ ⟨a, H₁, s₁, lg, p₁⟩ w h1 (all_app hn).2 hR hf hG
  cases l with
  | nil => exact key _ _ rfl
  | cons x l =>
    obtain ⟨k, x⟩ := x
    cases k with
    | zero => exact key _ _ rfl
    | succ k => exact key _ _ rfl
theorem sim_need {α β : Type} {p : Prop} {e : Ev α} {A : Nm → α → β → Prop} {run : World → (β → World → Prop) → Prop} (h : p → Sim P Fr G σ e A run) : Sim P Fr G σ ((need p).bind fun _ => e) A run := by
  intro H s r w hr hn hR hf hG
  unfold Ev.bind need at hr
  simp only at hr
  cases h1 : e H s with
  | none => simp [h1] at hr
  | some q => obtain ⟨a, H₁, s₁, lg, p₁⟩ := q; simp only [h1, Option.some.injEq] at hr; subst hr; exact h ((all_app (a := [p]) hn).1 p (by simp)) H s ⟨a, H₁, s₁, lg, p₁⟩ w h1 (all_app (a := [p]) hn).2 hR hf hG

theorem sim_plainNext {S : Sem Next} {n : Next} (h : ∀ w, S.run P w = .ok n w) : Sim P Fr G σ (plainNext n) NRel (runS P S) := by
  cases n with
  | value v =>
    unfold plainNext
    simp only
    cases hp : plain 6 v with
    | true => exact sim_run h (plain_refl 6 v hp)
    | false => exact sim_fail
  | skip => exact sim_run h rfl
  | enter f args =>
    unfold plainNext
    simp only
    cases hp : args.toList.all (plain 6) with
    | true => exact sim_run h ⟨rfl, ar_plain hp⟩
    | false => exact sim_fail
  | _ => exact sim_fail
theorem sim_plainE {S : Sem Next} : Sim P Fr G σ (plainE P S) NRel (runS P S) := by
  refine sim_ask fun x => ?_
  split
  · rename_i v
    cases hp : plain 6 v with
    | true => exact sim_need fun hn => sim_run (run_plain P _ _ hn) (plain_refl 6 v hp)
    | false => exact sim_fail
  · cases hn : runPlain P S with
    | some n => exact sim_plainNext (run_plain P _ _ hn)
    | none => exact sim_fail

/-! ### Types -/
def isAggD : TypeDesc → Bool
  | .struct _ | .array _ _ => true
  | _ => false
theorem run_underlying {t : TypeId} {d : TypeDesc} (h : P.underlying t = some d) (w : World) : (underlying t).run P w = .ok d w := by
  simp [underlying, program, Sem.run, bind, Sem.bind, pure, h]
theorem run_typeInfo {t : TypeId} {i : TypeInfo} (h : P.info? t = some i) (w : World) : (typeInfo t).run P w = .ok i w := by
  simp [typeInfo, program, Sem.run, bind, Sem.bind, pure, h]
theorem run_sizeOf {t : TypeId} {i : TypeInfo} (h : P.info? t = some i) (w : World) : (sizeOf t).run P w = .ok i.size w := by
  simp [sizeOf, Sem.run_bind, run_typeInfo h, pure, Sem.run]
theorem run_zero {t : TypeId} {i : TypeInfo} {z : Value} (h : P.info? t = some i) (hz : i.zero = some z) (w : World) : (zeroValue t).run P w = .ok z w := by
  simp [zeroValue, Sem.run_bind, run_typeInfo h, hz, pure, Sem.run]
theorem run_isAgg {t : TypeId} {d : TypeDesc} (h : P.underlying t = some d) (w : World) : (isAgg t).run P w = .ok (isAggD d) w := by
  unfold isAgg
  rw [show (underlying t >>= _) = (underlying t).bind _ from rfl, Sem.run_bind', run_underlying h]
  cases d <;> rfl

/-! ### load, store -/
def loadE (P : Program) (t : TypeId) (n o : Nat) : Ev Value :=
  match P.underlying t, P.info? t with
  | some d, some i => match isAggD d with
    | true => (rds n o i.size).bind fun l => .pure (.agg l.toArray)
    | false => rd n o
  | _, _ => .fail
theorem framed_loadE (P : Program) (t : TypeId) (n o : Nat) : Framed (loadE P t n o) := by
  unfold loadE
  split
  · split
    · exact framed_bind (framed_rds _ _ _) fun _ => framed_pure _
    · exact framed_rd _ _
  · exact framed_fail
theorem sim_conv {α β : Type} {e : Ev α} {A A' : Nm → α → β → Prop} {S : Sem β} (h : Sim P Fr G σ e A (runS P S)) (hA : ∀ τ a y, Sub σ τ → A τ a y → A' τ a y) : Sim P Fr G σ e A' (runS P S) := by
  intro H s r w hr hn hR hf hG
  obtain ⟨y, w', e, τ, ha, hR', ho, k⟩ := h H s r w hr hn hR hf hG
  exact ⟨y, w', e, τ, ha, hR', ho, hA _ _ _ ha.keep k⟩
/-- Behind an answer only its form turns. -/
theorem sim_map {α β γ δ : Type} {e : Ev α} {f : α → γ} {A : Nm → α → β → Prop} {B : Nm → γ → δ → Prop} {S : Sem β} {g : β → δ}
    (h : Sim P Fr G σ e A (runS P S)) (hA : ∀ τ a y, Sub σ τ → A τ a y → B τ (f a) (g y)) :
    Sim P Fr G σ (e.bind fun a => .pure (f a)) B (runS P (S.bind fun y => Sem.pure (g y))) := by
  intro H s r w hr hn hR hf hG
  unfold Ev.bind at hr
  cases h1 : e H s with
  | none => simp [h1] at hr
  | some q =>
    obtain ⟨a, H₁, s₁, lg, p₁⟩ := q
    simp only [h1, Ev.pure, Option.some.injEq] at hr
    subst hr
    obtain ⟨y, w', e', τ, ha, hR', ho, k⟩ := h H s _ w h1 (all_app hn).1 hR hf hG
    exact ⟨g y, w', by rw [Sem.run_bind', e']; rfl, τ, ha, hR', ho, hA _ _ _ ha.keep k⟩
theorem sim_loadE {t : TypeId} {n o : Nat} {p : Place} (hσ : σ n = some p) : Sim P Fr G σ (loadE P t n o) VR (runS P (loadVar t ⟨p.b, p.base + o, none⟩)) := by
  unfold loadE
  split
  · rename_i d i hd hi
    unfold loadVar
    refine sim_q (run_isAgg hd) ?_
    cases h : isAggD d with
    | true =>
      refine sim_q (run_sizeOf hi) ?_
      refine sim_map (A := fun τ a (y : Array Value) => ∃ l, y = #[] ++ l.toArray ∧ LR τ a l) (sim_rds hσ i.size o 0 _ #[] (by omega)) ?_
      rintro τ a y _ ⟨l, rfl, hl⟩
      simp only [Array.empty_append]
      exact .agg (hl.array).1 (hl.array).2
    | false => exact sim_rd hσ
  · exact sim_fail

theorem VR.cells {v r : Value} (h : VR σ v r) : LR σ v.cells.toList r.cells.toList := by
  cases h with
  | agg h1 h2 => exact AR.list ⟨h1, h2⟩
  | bool b => exact LR.cons (.bool b) (.nil _)
  | int k n => exact LR.cons (.int k n) (.nil _)
  | float k n => exact LR.cons (.float k n) (.nil _)
  | complex k n m => exact LR.cons (.complex k n m) (.nil _)
  | string s => exact LR.cons (.string s) (.nil _)
  | nilp => exact LR.cons .nilp (.nil _)
  | ptr h => exact LR.cons (.ptr h) (.nil _)
  | nils l c => exact LR.cons (.nils l c) (.nil _)
  | slc h hc => exact LR.cons (.slc h hc) (.nil _)
  | soft h hc hl => exact LR.cons (.soft h hc hl) (.nil _)
  | nilFunc => exact LR.cons .nilFunc (.nil _)
  | nilIface => exact LR.cons .nilIface (.nil _)
  | nilMap => exact LR.cons .nilMap (.nil _)
  | nilChan => exact LR.cons .nilChan (.nil _)
  | iface t h => exact LR.cons (.iface t h) (.nil _)
  | func f h1 h2 h3 h4 => exact LR.cons (.func f h1 h2 h3 h4) (.nil _)
  | tuple h1 h2 => exact LR.cons (.tuple h1 h2) (.nil _)

def storeE (P : Program) (t : TypeId) (n o : Nat) (v : Value) : Ev Unit :=
  match P.info? t with
  | some i => match v.cells.toList.length == i.size, v.cells.toList.all flat with
    | true, true => wrs n o v.cells.toList
    | _, _ => .fail
  | _ => .fail
theorem framed_storeE (P : Program) (t : TypeId) (n o : Nat) (v : Value) : Framed (storeE P t n o v) := by
  unfold storeE
  split
  · split <;> first | exact framed_wrs _ _ _ | exact framed_fail
  · exact framed_fail
theorem sim_storeE {t : TypeId} {n o : Nat} {p : Place} {v r : Value} (hσ : σ n = some p) (hv : VR σ v r) :
    Sim P Fr G σ (storeE P t n o v) (fun _ _ _ => True) (runS P (storeVar t ⟨p.b, p.base + o, none⟩ r)) := by
  unfold storeE
  split
  · rename_i i hi
    split
    · rename_i h1 h2
      unfold storeVar
      refine sim_q (run_sizeOf hi) ?_
      have hl := hv.cells
      have h1' : ¬ (r.cells.size ≠ i.size) := by
        have := hl.1
        simp at h1 this
        simp; omega
      rw [if_neg h1']
      exact sim_wrs hσ _ _ o 0 _ hl (List.all_eq_true.1 h2) (by omega)
    · exact sim_fail
  · exact sim_fail

def newE (t : TypeId) (v : Value) : Ev Value := (new ⟨v.cells.toList, t, false, false⟩).bind fun n => .pure (.pointer (some ⟨n, 0, none⟩))
theorem framed_newE (t : TypeId) (v : Value) : Framed (newE t v) := framed_bind (framed_new _) fun _ => framed_pure _
theorem sim_newE {t : TypeId} {v r : Value} (hv : VR σ v r) : Sim P Fr G σ (newE t v) VR (runS P ((newVar t r).bind fun a => Sem.pure (.pointer (some a)))) := by
  refine sim_map (A := fun τ n (a : Addr) => ∃ b cap, τ n = some ⟨b, 0, cap⟩ ∧ a = ⟨b, 0, none⟩) ?_ ?_
  · unfold newVar
    exact sim_new (B := ⟨v.cells.toList, t, false, false⟩) rfl hv.cells
  · rintro τ n a _ ⟨b, cap, h, rfl⟩
    have := VR.ptr (o := 0) h
    simpa using this
end
end Go.Proofs.YtakfoidmabendaaDoor.E
