/- A region: its operations in their order, or in any. -/
import Derived.Test.YtakfoidmabendaaDoorEvM
set_option linter.unusedVariables false
set_option linter.unusedSimpArgs false
namespace Go.Proofs.YtakfoidmabendaaDoor.E

def runC (P : Program) (f : FuncId) (b : Array Value) (w : World) (K : Value → World → Prop) : Prop := Calls P f b w fun | .returned v, w' => K v w' | _, _ => False
def runO (P : Program) (ρ : Operand → Value) (o : Oper) (w : World) (K : Value → World → Prop) : Prop := ∃ nx w', (execOp ρ o).run P w = .ok nx w' ∧ match nx with
  | .value r => K r w'
  | .skip => K undef w'
  | .enter f b => runC P f b w' K
  | _ => False
theorem runC_mono {P : Program} {f : FuncId} {b : Array Value} {w : World} {K K' : Value → World → Prop} (h : ∀ y w', K y w' → K' y w') (hr : runC P f b w K) : runC P f b w K' :=
  Calls.mono hr fun e w' he => by cases e <;> first | exact h _ _ he | exact he
theorem runO_wp {P : Program} {o : Oper} {a : Act} {w : World} {next : Act → World → Prop} {Q : Exit → Act → World → Prop} (h : runO P a.eval o w fun v w' => next (a.put o.dst v) w') : o.wp P a w next Q := by
  obtain ⟨nx, w', hr, hk⟩ := h
  unfold Oper.wp
  rw [hr]
  cases nx <;> simp only at hk <;> first | exact hk | exact hk.elim | skip
  exact Calls.mono hk fun e w' he => by cases e <;> first | exact he | exact he.elim

def preds (o : Oper) : List Nat := o.after.toList.filterMap fun e => match Region.binds .any e with | true => some e.on | false => none
def maskOf (M : List Nat) (ps : List Nat) : Nat := ps.foldr (fun p s => s ||| (2 ^ p ||| M.getD p 0)) 0
def opOk (G : Nat) (o : Oper) : Bool := o.op.operands.toList.all fun
  | .const v => plain 6 v
  | .global g => Nat.blt g G
  | _ => true
def stepsOk (M : List Nat) : List Oper → Nat → Bool
  | [], _ => true
  | o :: l, i => (preds o).all (fun p => Nat.blt p i) && Nat.beq (M.getD i 0) (maskOf M (preds o)) && stepsOk M l (i + 1)
def pairOk (ops : Array Oper) (M : List Nat) (x : Oper) (i : Nat) : List Oper → Nat → Bool
  | [], _ => true
  | y :: l, j => ((M.getD j 0).testBit i || x.apart ops y) && pairOk ops M x i l (j + 1)
def pairsOk (ops : Array Oper) (M : List Nat) : List Oper → Nat → Bool
  | [], _ => true
  | x :: l, i => pairOk ops M x i l (i + 1) && pairsOk ops M l (i + 1)
/-- The operations ahead of each, as bits. -/
def masks : List Oper → Nat → List Nat → List Nat
  | [], _, acc => acc.reverse
  | o :: l, i, acc => natK ((preds o).foldr (fun p s => s ||| (2 ^ p ||| acc.getD (i - 1 - p) 0)) 0) fun m => masks l (i + 1) (m :: acc)

structure Rec where
  i : Nat
  lo : Nat
  hi : Nat
  log : List Evt
def Rec.quiet (r : Rec) : Bool := match r.log with
  | [] => Nat.beq r.lo r.hi
  | _ :: _ => false
def Rec.hits (x y : Rec) : Bool := y.log.any fun e => Nat.ble x.lo e.name && Nat.blt e.name x.hi
def Rec.free (x y : Rec) : Bool := !(x.log.any fun e => y.log.any (clash e)) && !x.hits y && !y.hits x
def freeOf (M : List Nat) (x : Rec) : List Rec → Bool
  | [] => true
  | y :: l => ((M.getD y.i 0).testBit x.i || x.free y) && freeOf M x l
def allFree (M : List Nat) : List Rec → Bool
  | [] => true
  | x :: l => match x.quiet with
    | true => allFree M l
    | false => freeOf M x (l.filter fun y => !y.quiet) && allFree M l

def logged {α : Type} (e : Ev α) : Ev (α × Nat × Nat × List Evt) := fun H s => match e H s with
  | none => none
  | some ⟨a, H', s', l, p⟩ => some ⟨(a, s.name, s'.name, l), H', s', l, p⟩
theorem framed_logged {α : Type} {e : Ev α} (h : Framed e) : Framed (logged e) := by
  intro H s r hr
  unfold logged at hr
  cases h₁ : e H s with
  | none => simp [h₁] at hr
  | some q =>
    obtain ⟨a, H', s', l, p⟩ := q
    simp only [h₁, Option.some.injEq] at hr
    subst hr
    obtain ⟨m, g⟩ := h _ _ _ h₁
    refine ⟨m, fun hf => ?_⟩
    obtain ⟨c, k⟩ := g hf
    refine ⟨c, fun K hK hKf => ?_⟩
    obtain ⟨K', e', c', lk⟩ := k K hK hKf
    exact ⟨K', by simp [logged, e'], c', lk⟩

section
variable (P : Program) (st : Bool) (callF : FuncId → Array Value → Ev Value)
def regL (ops : Array Oper) : List Nat → List Value → Ev (List Value)
  | [], t => .pure t
  | i :: l, t => (stepVal P callF st ops i t).bind fun v => (putE st (heavyAt ops i) t (dstOf ops i) v).bind fun t' => regL ops l t'
def regD (ops : Array Oper) : List Nat → List Value → Ev (List Value × List Rec)
  | [], t => .pure (t, [])
  | i :: l, t => (logged (stepVal P callF st ops i t)).bind fun q => (putE st (heavyAt ops i) t (dstOf ops i) q.1).bind fun t' => (regD ops l t').bind fun z => .pure (z.1, ⟨i, q.2.1, q.2.2.1, q.2.2.2⟩ :: z.2)
def regionE (G : Nat) (ops : Array Oper) (draw : Bool) (t : List Value) : Ev (List Value) := match ops.toList.all (opOk G) with
  | false => .fail
  | true => match draw with
    | false => regL P st callF ops (List.range ops.size) t
    | true => match stepsOk (masks ops.toList 0 []) ops.toList 0 && pairsOk ops (masks ops.toList 0 []) ops.toList 0 with
      | false => .fail
      | true => (regD P st callF ops (List.range ops.size) t).bind fun z => match allFree (masks ops.toList 0 []) z.2 with
        | true => .pure z.1
        | false => .fail
end

section
variable {P : Program} {st : Bool} {callF : FuncId → Array Value → Ev Value} {ops : Array Oper}
theorem framed_regL (hcall : ∀ f a, Framed (callF f a)) : ∀ (l : List Nat) (t : List Value), Framed (regL P st callF ops l t)
  | [], t => framed_pure _
  | i :: l, t => framed_bind (framed_stepVal hcall _ _ _) fun v => framed_bind (by rw [putE_eq]; exact framed_pure _) fun t' => framed_regL hcall l t'
theorem framed_regD (hcall : ∀ f a, Framed (callF f a)) : ∀ (l : List Nat) (t : List Value), Framed (regD P st callF ops l t)
  | [], t => framed_pure _
  | i :: l, t => framed_bind (framed_logged (framed_stepVal hcall _ _ _)) fun q => framed_bind (by rw [putE_eq]; exact framed_pure _) fun t' => framed_bind (framed_regD hcall l t') fun z => framed_pure _
theorem framed_regionE (hcall : ∀ f a, Framed (callF f a)) (G : Nat) (draw : Bool) (t : List Value) : Framed (regionE P st callF G ops draw t) := by
  unfold regionE
  split
  · exact framed_fail
  · split
    · exact framed_regL hcall _ _
    · split
      · exact framed_fail
      · refine framed_bind (framed_regD hcall _ _) fun z => ?_
        split
        · exact framed_pure _
        · exact framed_fail
end

/-! ### the steps, on both sides -/
def TR (σ : Nm) (t : List Value) (a : Act) : Prop := LR σ t a.tmps.toList ∧ a.defers = []
section
variable {P : Program} {Fr : Prot} {G : Nat} {σ : Nm} {callF : FuncId → Array Value → Ev Value} {ops : Array Oper}

theorem TR.sub {τ : Nm} {t : List Value} {a : Act} (h : TR σ t a) (hs : Sub σ τ) : TR τ t a := ⟨h.1.sub hs, h.2⟩
theorem TR.put {t : List Value} {a : Act} (h : TR σ t a) (dst : Option Tmp) {v r : Value} (hv : VR σ v r) : TR σ (putT t dst v) (a.put dst r) := by
  cases dst with
  | none => exact h
  | some d =>
    refine ⟨⟨by simpa [putT, Act.put] using h.1.1, fun i x y hx hy => ?_⟩, h.2⟩
    simp only [putT, Act.put, Array.toList_setIfInBounds] at hx hy
    rw [List.getElem?_set] at hx hy
    by_cases e : d = i
    · rw [if_pos e] at hx hy
      split at hx
      · split at hy
        · cases hx; cases hy; exact hv
        · cases hy
      · cases hx
    · rw [if_neg e] at hx hy; exact h.1.2 i x y hx hy
theorem evalT_rel (hg : ∀ g, g < G → ∃ c, σ g = some ⟨g, 0, c⟩) {t : List Value} {a : Act} (h : TR σ t a) {o : Oper} (ho : opOk G o = true) : ∀ x ∈ o.op.operands, VR σ (evalT t x) (a.eval x) := by
  intro x hx
  have hox := List.all_eq_true.1 ho x (by simpa using hx)
  cases x with
  | tmp u =>
    simp only [evalT, getT_eq, Act.eval]
    rw [List.getD_eq_getElem?_getD, Array.getD_eq_getD_getElem?, ← Array.getElem?_toList]
    cases hu : t[u]? with
    | none =>
      have : a.tmps.toList[u]? = none := by
        rw [List.getElem?_eq_none_iff] at hu ⊢
        rw [← h.1.1]; exact hu
      rw [this]
      exact .tuple rfl fun i v r hv _ => by simp at hv
    | some v =>
      obtain ⟨r, hr, hvr⟩ := h.1.get hu
      rw [hr]; exact hvr
  | const v => exact plain_refl 6 v hox
  | global g =>
    obtain ⟨c, hc⟩ := hg g (by simpa [Nat.blt_eq] using hox)
    have := VR.ptr (o := 0) hc
    simpa [evalT, Act.eval] using this
  | func f => exact .func _ rfl (fun i v r hv _ => by simp at hv) rfl (fun i v r hv _ => by simp at hv)

theorem sim_ret {α β : Type} {A : Nm → α → β → Prop} {v : α} {r : β} (h : A σ v r) : Sim P Fr G σ (Ev.pure v) A (fun w K => K r w) := by
  intro H s q w hr hn hR hf hG
  simp only [Ev.pure, Option.some.injEq] at hr
  subst hr
  exact ⟨σ, .refl .., hR, .refl .., h⟩

def CallsOk (P : Program) (Fr : Prot) (G : Nat) (callF : FuncId → Array Value → Ev Value) : Prop :=
  (∀ f a, Framed (callF f a)) ∧ ∀ σ f a b, AR σ a b → Sim P Fr G σ (callF f a) VR (runC P f b)

theorem sim_opC {st : Bool} (hc : CallsOk P Fr G callF) {ρ ρ' : Operand → Value} {o : Oper} (h : ∀ x ∈ o.op.operands, VR σ (ρ x) (ρ' x)) : Sim P Fr G σ (opC P callF st o ρ) VR (runO P ρ' o) := by
  rw [opC_eq]
  refine sim_bind' (run₁ := runS P (execOp ρ' o)) (run₂ := fun nx w K => match nx with | .value r => K r w | .skip => K undef w | .enter f b => runC P f b w K | _ => False) (framed_opE _ _ _).mono (fun n => ?_) (sim_opE h) (fun τ n nx hs hA => ?_) (fun _ _ _ h => runS_mono h) (fun nx w K K' hK hr => ?_) (fun w K hr => ?_)
  · split
    · exact (framed_pure _).mono
    · exact (hc.1 _ _).mono
  · cases n with
    | val v =>
      cases nx <;> simp only [NRel] at hA
      · exact sim_ret hA
      · subst hA; exact sim_ret (.tuple rfl fun i v r hv _ => by simp at hv)
    | enter f args =>
      cases nx <;> simp only [NRel] at hA
      obtain ⟨rfl, har⟩ := hA
      exact hc.2 _ _ _ _ har
  · cases nx <;> simp only at hr ⊢ <;> first | exact hK _ _ hr | exact hr.elim | exact runC_mono hK hr
  · obtain ⟨nx, w', e, hk⟩ := hr
    exact ⟨nx, w', e, hk⟩

theorem sim_wantedE {o : Oper} {t : List Value} {a : Act} (h : TR σ t a) : Sim P Fr G σ (wantedE ops o t) (fun _ b c => b = c) (fun w K => K (Region.wanted o (yielded ops a.tmps)) w) := by
  unfold wantedE Region.wanted
  split
  · rename_i hg
    simp only [hg]
    exact sim_ret rfl
  · rename_i j want hg
    simp only [hg, yielded]
    split
    · rename_i d hd
      simp only [hd, Option.bind_some]
      split
      · rename_i b hb
        obtain ⟨r, hr, hvr⟩ := h.1.get hb
        rw [Array.getElem?_toList] at hr
        cases hvr
        refine sim_ask fun x => ?_
        rw [hr]
        split
        · rename_i u
          refine sim_need fun hn => ?_
          subst hn
          exact sim_ret (by simp)
        · exact sim_ret (by simp)
      · rename_i hnb
        refine sim_ret ?_
        cases hu : t[d]? with
        | none =>
          have : a.tmps[d]? = none := by
            rw [← Array.getElem?_toList, List.getElem?_eq_none_iff, ← h.1.1, ← List.getElem?_eq_none_iff]; exact hu
          rw [this]; rfl
        | some v =>
          obtain ⟨r, hr, hvr⟩ := h.1.get hu
          rw [Array.getElem?_toList] at hr
          rw [hr]
          cases hvr <;> first | rfl | exact absurd hu (hnb _)
    · rename_i hd
      simp only [hd, Option.bind_none]
      exact sim_ret rfl

theorem sim_step {st : Bool} (hc : CallsOk P Fr G callF) {t : List Value} {a : Act} (h : TR σ t a) {i : Nat} (hok : ∀ o, ops[i]? = some o → opOk G o = true) (Q : Exit → Act → World → Prop) :
    Sim P Fr G σ (stepVal P callF st ops i t) VR (fun w K => wpOp P ops Q i (fun a' w' => ∃ r, a' = a.put (dstOf ops i) r ∧ K r w') a w) := by
  intro H s r w hr hn hR hf hG
  unfold stepVal at hr
  unfold wpOp dstOf
  cases ho : ops[i]? with
  | none =>
    simp only [ho, Ev.pure, Option.some.injEq] at hr
    subst hr
    exact ⟨undef, rfl, σ, .refl .., hR, .refl .., .tuple rfl fun i v r hv _ => by simp at hv⟩
  | some o =>
    simp only [ho] at hr
    simp only [Option.bind_some]
    obtain ⟨r₁, r₂, h₁, h₂, rfl⟩ := bind_eq hr
    have hm₁ := (framed_wantedE ops o t).mono _ _ _ h₁
    have hm₂ : r₁.sup.name ≤ r₂.sup.name := by
      cases hv : r₁.val with
      | true => rw [hv] at h₂; exact (framed_opC (P := P) (st := st) hc.1 o _).mono _ _ _ h₂
      | false => rw [hv] at h₂; exact (framed_pure _).mono _ _ _ h₂
    obtain ⟨τ, ha, hR₁, hO, hb⟩ := sim_wantedE (P := P) (Fr := Fr) (G := G) (ops := ops) (o := o) h H s r₁ w h₁ (all_app hn).1 hR (fun n hx => hf n ⟨hx.1, Nat.lt_of_lt_of_le hx.2 hm₂⟩) hG
    rw [← hb]
    cases hv : r₁.val with
    | true =>
      rw [hv] at h₂
      simp only at h₂
      rw [if_pos rfl]
      refine .inl (runO_wp ?_)
      have hrel := evalT_rel hR₁.glob (h.sub ha.keep) (hok o ho)
      have := sim_opC (P := P) (Fr := Fr) (G := G) hc hrel r₁.hp r₁.sup r₂ w h₂ (all_app hn).2 hR₁ (fun n hx => ha.none (hf n ⟨Nat.le_trans hm₁ hx.1, hx.2⟩) (fun q => by have h1 := q.2; have h2 := hx.1; omega)) (Nat.le_trans hG hm₁)
      obtain ⟨nx, w', e, hk⟩ := this
      refine ⟨nx, w', e, ?_⟩
      have fin : ∀ y w'', (∃ υ, Aft τ υ r₁.sup.name r₂.sup.name ∧ Rel P Fr G υ r₂.hp w'' ∧ Out Fr w w'' ∧ VR υ r₂.val y) →
          ∃ r, a.put o.dst y = a.put o.dst r ∧ ∃ υ, Aft σ υ s.name r₂.sup.name ∧ Rel P Fr G υ r₂.hp w'' ∧ Out Fr w w'' ∧ VR υ r₂.val r := by
        rintro y w'' ⟨υ, a1, a2, a3, a4⟩
        exact ⟨y, rfl, υ, ha.trans a1 hm₁ hm₂, a2, a3, a4⟩
      cases nx <;> simp only at hk ⊢ <;> first | exact fin _ _ hk | exact hk.elim | exact runC_mono (fun y w'' hy => fin y w'' hy) hk
    | false =>
      rw [hv] at h₂
      simp only [Ev.pure, Option.some.injEq] at h₂
      subst h₂
      rw [if_neg (by simp)]
      exact ⟨undef, rfl, τ, ha, hR₁, hO, .tuple rfl fun i v r hv _ => by simp at hv⟩
end
end Go.Proofs.YtakfoidmabendaaDoor.E
