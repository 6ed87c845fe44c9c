/- Code and calls: the machine reckons a call, and the model answers it. -/
import Derived.Test.YtakfoidmabendaaDoorEvO
import Derived.Below
set_option linter.unusedVariables false
set_option linter.unusedSimpArgs false
namespace Go.Proofs.YtakfoidmabendaaDoor.E
open Go.RowKit

inductive Ex where
  | normal
  | exit (id : Nat)
  | ret
def Ex.to : Ex → Exit
  | .normal => .normal
  | .exit id => .exit id
  | .ret => .ret

section
variable (P : Program) (st : Bool) (G : Nat) (callF : FuncId → Array Value → Ev Value)
def codeE : Nat → Code → List Value → Ev (Ex × List Value)
  | 0, _, _ => .fail
  | f + 1, c, t => match c with
    | .skip => .pure (.normal, t)
    | .label _ => .pure (.normal, t)
    | .region _ ops draw => (regionE P st callF G ops draw t).bind fun t' => .pure (.normal, t')
    | .seq a b => (codeE f a t).bind fun q => match q.1 with
      | .normal => codeE f b q.2
      | x => .pure (x, q.2)
    | .cond c a b => match evalT t c with
      | .bool v => ask.bind fun
        | .bit u => (need (v = u)).bind fun _ => match u with
          | true => codeE f a t
          | false => codeE f b t
        | _ => match v with
          | true => codeE f a t
          | false => codeE f b t
      | _ => .fail
    | .block id c => (codeE f c t).bind fun q => match q.1 with
      | .exit id' => match Nat.beq id' id with
        | true => .pure (.normal, q.2)
        | false => .pure (.exit id', q.2)
      | x => .pure (x, q.2)
    | .loop c => (codeE f c t).bind fun q => match q.1 with
      | .normal => codeE f (.loop c) q.2
      | x => .pure (x, q.2)
    | .exit id => .pure (.exit id, t)
    | .ret => .pure (.ret, t)
    | _ => .fail
def resL (t : List Value) : List ResultVar → Ev (List Value)
  | [] => .pure []
  | .tmp k :: l => (resL t l).bind fun vs => .pure (t.getD k undef :: vs)
  | .cell a ty :: l => match t.getD a undef with
    | .pointer (some ⟨n, o, none⟩) => (loadE P ty n o).bind fun v => (resL t l).bind fun vs => .pure (v :: vs)
    | _ => .fail
def oneOf : List Value → Value
  | [v] => v
  | l => .tuple l.toArray
end

/-- A call that makes nothing of what is protected another, and answers one thing. -/
def PureC (P : Program) (Fr : Prot) (f : FuncId) (args : Array Value) (v : Value) : Prop :=
  ∀ w : World, (∀ b, Fr b → w.heap[b]? = some (Fr.obj b)) → runC P f args w fun r w' => r = v ∧ Below w.heap.size w w'

def callE (P : Program) (st : Bool) (Fr : Prot) (G : Nat) (cf : Nat) (K : FuncId → Array Value → Option Value) : Nat → FuncId → Array Value → Ev Value
  | 0, _, _ => .fail
  | n + 1, f, args => ask.bind fun
    | .val v => match plain 6 v && args.toList.all (plain 6) with
      | true => (need (PureC P Fr f args v)).bind fun _ => .pure v
      | false => .fail
    | _ => match K f args with
     | some v => match plain 6 v && args.toList.all (plain 6) with
      | true => .pure v
      | false => .fail
     | none => match P.funcs[f]? with
      | some fn => match fn.body with
        | some c => (codeE P st G (callE P st Fr G cf K n) cf c (args.toList ++ List.replicate (fn.ntmps - args.size) undef)).bind fun q => match q.1 with
          | .exit _ => .fail
          | _ => (resL P q.2 fn.results.toList).bind fun l => .pure (oneOf l)
        | none => .fail
      | none => .fail

section
variable {P : Program} {st : Bool} {Fr : Prot} {G : Nat} {callF : FuncId → Array Value → Ev Value}
theorem framed_codeE (hc : ∀ f a, Framed (callF f a)) : ∀ (n : Nat) (c : Code) (t : List Value), Framed (codeE P st G callF n c t) := by
  intro n
  induction n with
  | zero => intro c t; exact framed_fail
  | succ n ih =>
    intro c t
    unfold codeE
    split
    · exact framed_pure _
    · exact framed_pure _
    · exact framed_bind (framed_regionE hc _ _ _) fun _ => framed_pure _
    · refine framed_bind (ih _ _) fun q => ?_
      split
      · exact ih _ _
      · exact framed_pure _
    · split
      · refine framed_bind framed_ask fun x => ?_
        split
        · refine framed_bind (framed_need _) fun _ => ?_
          split <;> exact ih _ _
        · split <;> exact ih _ _
      · exact framed_fail
    · refine framed_bind (ih _ _) fun q => ?_
      split
      · split <;> exact framed_pure _
      · exact framed_pure _
    · refine framed_bind (ih _ _) fun q => ?_
      split
      · exact ih _ _
      · exact framed_pure _
    · exact framed_pure _
    · exact framed_pure _
    · exact framed_fail
theorem framed_resL (t : List Value) : ∀ l : List ResultVar, Framed (resL P t l)
  | [] => framed_pure _
  | .tmp k :: l => framed_bind (framed_resL t l) fun _ => framed_pure _
  | .cell a ty :: l => by
    unfold resL
    split
    · exact framed_bind (framed_loadE _ _ _ _) fun _ => framed_bind (framed_resL t l) fun _ => framed_pure _
    · exact framed_fail
theorem framed_callE (cf : Nat) (K : FuncId → Array Value → Option Value) : ∀ (n : Nat) (f : FuncId) (a : Array Value), Framed (callE P st Fr G cf K n f a) := by
  intro n
  induction n with
  | zero => intro f a; exact framed_fail
  | succ n ih =>
    intro f a
    unfold callE
    refine framed_bind framed_ask fun x => ?_
    split
    · split
      · exact framed_bind (framed_need _) fun _ => framed_pure _
      · exact framed_fail
    · split
      · split <;> first | exact framed_pure _ | exact framed_fail
      · split
        · split
          · refine framed_bind (framed_codeE ih _ _ _) fun q => ?_
            split
            · exact framed_fail
            · exact framed_bind (framed_resL _ _) fun _ => framed_pure _
          · exact framed_fail
        · exact framed_fail

/-! ### both sides -/
def codeRun (P : Program) (c : Code) (a : Act) (w : World) (K : Exit × Act → World → Prop) : Prop := ∀ Q : Exit → Act → World → Prop, (∀ x a' w', K (x, a') w' → Q x a' w') → c.wp P Q a w
def loopRun (P : Program) (c : Code) (a : Act) (w : World) (K : Exit × Act → World → Prop) : Prop := ∀ Q : Exit → Act → World → Prop, (∀ x a' w', K (x, a') w' → Q x a' w') →
  ∀ (b : Frame) (k : List Item) (cs : List Frame), ∃ e a' w', Q e a' w' ∧ Arrives P (lone (b.at a (.code c :: .inLoop c :: k)) cs w) b k cs e a' w'
def CA (σ : Nm) (x : Ex × List Value) (y : Exit × Act) : Prop := x.1.to = y.1 ∧ TR σ x.2 y.2
theorem codeRun_mono {c : Code} {a : Act} {w : World} {K K' : Exit × Act → World → Prop} (h : ∀ y w', K y w' → K' y w') (hr : codeRun P c a w K) : codeRun P c a w K' := fun Q hQ => hr Q fun x a' w' hk => hQ _ _ _ (h _ _ hk)
theorem loopRun_mono {c : Code} {a : Act} {w : World} {K K' : Exit × Act → World → Prop} (h : ∀ y w', K y w' → K' y w') (hr : loopRun P c a w K) : loopRun P c a w K' := fun Q hQ => hr Q fun x a' w' hk => hQ _ _ _ (h _ _ hk)
theorem loopRun_code {c : Code} {a : Act} {w : World} {K : Exit × Act → World → Prop} (h : loopRun P c a w K) : codeRun P (.loop c) a w K := by
  intro Q hQ b k cs
  obtain ⟨e, a', w', hq, harr⟩ := h Q hQ b k cs
  exact ⟨e, a', w', hq, .of_steps (.one step_loop) harr⟩
theorem loopRun_step {c : Code} {a : Act} {w : World} {K : Exit × Act → World → Prop}
    (h : codeRun P c a w fun y w' => match y.1 with | .normal => loopRun P c y.2 w' K | e => K (e, y.2) w') : loopRun P c a w K := by
  intro Q hQ b k cs
  have := h (Exit.then (fun a' w' => loopRun P c a' w' K) Q) (fun x a' w' hk => by
    cases x <;> simp only [Exit.then] <;> first | exact hk | exact hQ _ _ _ hk)
  obtain ⟨e, a₁, w₁, hq, harr⟩ := this b (.inLoop c :: k) cs
  cases e with
  | normal =>
    obtain ⟨e₂, a₂, w₂, hq₂, harr₂⟩ := hq Q hQ b k cs
    exact ⟨e₂, a₂, w₂, hq₂, .of_steps (Steps.trans harr (.one step_inLoop)) harr₂⟩
  | exit id => exact ⟨_, a₁, w₁, hq, .pass (x := .inLoop c) rfl (fun _ _ => .inl (by simp)) harr⟩
  | goto l => exact ⟨_, a₁, w₁, hq, .pass (x := .inLoop c) rfl (fun _ _ => .inl (by simp)) harr⟩
  | ret => exact ⟨_, a₁, w₁, hq, .pass (x := .inLoop c) rfl (fun _ _ => .inl (by simp)) harr⟩
  | panic ch => exact ⟨_, a₁, w₁, hq, .pass (x := .inLoop c) rfl (fun _ _ => .inl (by simp)) harr⟩
  | outgrown => exact ⟨_, a₁, w₁, hq, .pass (x := .inLoop c) rfl (fun _ _ => .inl (by simp)) harr⟩

variable {σ : Nm}
theorem TR.eval {t : List Value} {a : Act} (h : TR σ t a) {c : Operand} {v : Bool} (hv : evalT t c = .bool v) : a.eval c = .bool v := by
  cases c with
  | tmp u =>
    simp only [evalT, getT_eq, Act.eval] at hv ⊢
    rw [List.getD_eq_getElem?_getD] at hv
    rw [Array.getD_eq_getD_getElem?, ← Array.getElem?_toList]
    cases hu : t[u]? with
    | none => rw [hu] at hv; simp [undef] at hv
    | some x =>
      rw [hu] at hv
      simp only [Option.getD_some] at hv
      subst hv
      obtain ⟨r, hr, hvr⟩ := h.1.get hu
      cases hvr
      rw [hr]; rfl
  | const x => exact hv
  | global g => simp [evalT] at hv
  | func f => simp [evalT] at hv

theorem rel_drawn {H : Tr} {w : World} (h : Rel P Fr G σ H w) : Rel P Fr G σ H { w with drawn := w.drawn + 1 } := ⟨h.glob, h.blk, h.apart, h.prot⟩
theorem sim_regL (hc : CallsOk P Fr G callF) {ops : Array Oper} (hok : ∀ (i : Nat) (o : Oper), ops[i]? = some o → opOk G o = true) : ∀ (l : List Nat) (σ : Nm) (t : List Value) (a : Act), TR σ t a →
    Sim P Fr G σ (regL P st callF ops l t) TR (fun w K => ∀ Q : Exit → Act → World → Prop, (∀ a' w', K a' w' → Q .normal a' w') → wpOps P ops Q l a w) := by
  intro l
  induction l with
  | nil =>
    intro σ t a h H s r w hr hn hR hf hG Q hQ
    simp only [regL, Ev.pure, Option.some.injEq] at hr
    subst hr
    exact hQ _ _ ⟨σ, .refl .., hR, .refl .., h⟩
  | cons i l ih =>
    intro σ t a h H s r w hr hn hR hf hG Q hQ
    unfold regL at hr
    obtain ⟨r₁, r₂, h₁, h₂, rfl⟩ := bind_eq hr
    obtain ⟨r₃, r₄, h₃, h₄, rfl⟩ := bind_eq h₂
    rw [putE_eq] at h₃
    simp only [Ev.pure, Option.some.injEq] at h₃
    subst h₃
    have hm₁ := (framed_stepVal (P := P) (st := st) hc.1 ops i t).mono _ _ _ h₁
    have hm₂ := (framed_regL (P := P) (ops := ops) hc.1 l _).mono _ _ _ h₄
    rw [wpOps_cons]
    have := sim_step (P := P) (Fr := Fr) (G := G) (ops := ops) hc h (i := i) (hok i) Q H s r₁ w h₁ (all_app hn).1 hR (fun n hx => hf n ⟨hx.1, Nat.lt_of_lt_of_le hx.2 hm₂⟩) hG
    refine wpOp_mono (fun a' w' hk => ?_) this
    obtain ⟨r', rfl, τ, ha, hR₁, hO, hv⟩ := hk
    refine ih τ _ _ ((h.sub ha.keep).put _ hv) r₁.hp r₁.sup r₄ w' h₄ (all_app (all_app hn).2).2 hR₁ (fun n hx => ha.none (hf n ⟨Nat.le_trans hm₁ hx.1, hx.2⟩) (fun q => by have h1 := q.2; have h2 : r₁.sup.name ≤ n := hx.1; omega)) (Nat.le_trans hG hm₁) Q (fun a'' w'' hk => hQ _ _ ?_)
    obtain ⟨υ, b1, b2, b3, b4⟩ := hk
    exact ⟨υ, ha.trans b1 hm₁ hm₂, b2, hO.trans b3, b4⟩

theorem sim_regionE (hm : P.follows .mixedOrders = true) (hc : CallsOk P Fr G callF) {id : Nat} {ops : Array Oper} {draw : Bool} {t : List Value} {a : Act} (h : TR σ t a) :
    Sim P Fr G σ (regionE P st callF G ops draw t) TR (fun w K => ∀ Q : Exit → Act → World → Prop, (∀ a' w', K a' w' → Q .normal a' w') → (Code.region id ops draw).wp P Q a w) := by
  unfold regionE
  cases hall : ops.toList.all (opOk G) with
  | false => exact sim_fail
  | true =>
    have hok : ∀ (i : Nat) (o : Oper), ops[i]? = some o → opOk G o = true := fun i o ho => List.all_eq_true.1 hall o (Array.mem_toList_iff.2 (Array.mem_of_getElem? ho))
    cases draw with
    | false =>
      intro H s r w hr hn hR hf hG Q hQ
      exact wp_region (sim_regL hc hok _ σ t a h H s r w hr hn hR hf hG Q hQ)
    | true =>
      simp only
      generalize masks ops.toList 0 [] = M
      cases hst : (stepsOk M ops.toList 0 && pairsOk ops M ops.toList 0) with
      | false => exact sim_fail
      | true =>
        simp only [Bool.and_eq_true] at hst
        intro H s r w hr hn hR hf hG Q hQ
        obtain ⟨r₁, r₂, h₁, h₂, rfl⟩ := bind_eq hr
        cases hfree : allFree M r₁.val.2 with
        | false => simp only [hfree, Ev.fail] at h₂; cases h₂
        | true =>
          simp only [hfree, Ev.pure, Option.some.injEq] at h₂
          subst h₂
          obtain ⟨c, k1, k2, k3, k4, k5, k6⟩ := regD_seq hc.1 _ _ _ _ _ h₁
          have hops : ∀ e ∈ c, e.i < ops.size := fun e he => by
            have : e.i ∈ c.map Ent.i := List.mem_map.2 ⟨e, he, rfl⟩
            rw [k2] at this; simpa using this
          have hi : c.Pairwise (fun x y => x.i < y.i) := by
            have : (c.map Ent.i).Pairwise (· < ·) := by rw [k2]; exact List.pairwise_lt_range
            exact List.pairwise_map.1 this
          have hpair := allFree_spec hfree
          rw [← k3] at hpair
          have hpair := List.pairwise_map.1 hpair
          have hpi : c.Pairwise (fun x y => (M.getD y.i 0).testBit x.i = true ∨ Ind ops x y) := by
            have hboth := hpair.and hi
            refine hboth.imp ?_
            rintro x y ⟨hd, hlt⟩
            rcases hd with hd | hd
            · exact .inl hd
            · by_cases hb : (M.getD y.i 0).testBit x.i = true
              · exact .inl hb
              · refine .inr ⟨fun o o' ho ho' => ?_, hd.cl, hd.fx, hd.fy⟩
                have := pairsOk_spec (ops := ops) ops.toList 0 hst.2 x.i y.i o o' hlt (by simpa using ho) (by simpa using ho')
                simp only [Nat.zero_add] at this
                exact this.resolve_left hb
          have hlen : c.length = ops.size := by
            have := congrArg List.length k2
            simpa using this
          refine wp_region_any hm ?_
          rw [← hlen]
          refine any_sound (P := P) (Fr := Fr) (G := G) hc (M := M) (fun i o ho => ?_) hok c.length c rfl t H r₁.val.1 r₁.hp σ a _ _ s.name r₁.sup.name k1 h (rel_drawn hR) ?_ ?_ hpi hi (by simp [hlen]) ?_ ?_ ?_
          · have := stepsOk_spec ops.toList 0 hst.1 i o (by simpa using ho)
            simpa using this
          · intro e he
            obtain ⟨a1, a2, a3⟩ := k5 e he
            have hlt := hops e he
            refine ⟨?_, fun n hx => hf n ⟨Nat.le_trans a1 hx.1, Nat.lt_of_lt_of_le hx.2 a3⟩, Nat.le_trans hG a1, a1, a3, k4 (all_app hn).1 e he, ops[e.i], by simp [hlt]⟩
            intro n hx
            cases hg : H.get n with
            | none => rfl
            | some B =>
              obtain ⟨p, _, _, hp, _⟩ := hR.blk n B hg
              rw [hf n ⟨Nat.le_trans a1 hx.1, Nat.lt_of_lt_of_le hx.2 a3⟩] at hp; cases hp
          · refine k6.imp ?_
            intro x y hxy n h1 h2
            have := h1.2; have := h2.1; omega
          · intro i o ho
            have his : i < ops.size := by
              rcases Nat.lt_or_ge i ops.size with h | h
              · exact h
              · simp [Array.getElem?_eq_none h] at ho
            constructor
            · intro _
              have : i ∈ c.map Ent.i := by rw [k2]; simpa using his
              obtain ⟨e, he, rfl⟩ := List.mem_map.1 this
              exact ⟨e, he, rfl⟩
            · intro _
              simp [Array.getD, hlen, his]
          · intro i o ho hx
            have his : i < ops.size := by
              rcases Nat.lt_or_ge i ops.size with h | h
              · exact h
              · simp [Array.getElem?_eq_none h] at ho
            simp [Array.getD, hlen, his] at hx
          · intro τ a' w' H'' b1 b2 b3 b4 b5
            refine hQ a' w' ⟨τ, b1, ?_, ⟨b3.os, b3.tape, b3.output, b3.size, b3.block⟩, b4⟩
            exact ⟨b2.glob, fun n B hB => b2.blk n B (by rw [← b5 n]; exact hB), fun n m B C p q hB hC => b2.apart n m B C p q (by rw [← b5 n]; exact hB) (by rw [← b5 m]; exact hC), b2.prot⟩
end
end Go.Proofs.YtakfoidmabendaaDoor.E
