/- A call that the machine reckons is answered so by the model. -/
import Derived.Test.YtakfoidmabendaaDoorEvP
set_option linter.unusedVariables false
set_option linter.unusedSimpArgs false
namespace Go.Proofs.YtakfoidmabendaaDoor.E
open Go.RowKit
section
variable {P : Program} {st : Bool} {Fr : Prot} {G : Nat} {callF : FuncId → Array Value → Ev Value} {σ : Nm}

theorem sim_stop {x : Ex} {t : List Value} {a : Act} {c : Code} (h : TR σ t a) (hw : ∀ (w : World) (Q : Exit → Act → World → Prop), Q x.to a w → c.wp P Q a w) : Sim P Fr G σ (Ev.pure (x, t)) CA (codeRun P c a) := by
  intro H s r w hr hn hR hf hG
  simp only [Ev.pure, Option.some.injEq] at hr
  subst hr
  intro Q hQ
  exact hw w Q (hQ _ _ _ ⟨σ, .refl .., hR, .refl .., rfl, h⟩)

def next₂ (P : Program) (run : Act → World → (Exit × Act → World → Prop) → Prop) (y : Exit × Act) (w : World) (K : Exit × Act → World → Prop) : Prop := match y.1 with
  | .normal => run y.2 w K
  | e => K (e, y.2) w
theorem next_mono {run : Act → World → (Exit × Act → World → Prop) → Prop} (hm : ∀ a w K K', (∀ y w', K y w' → K' y w') → run a w K → run a w K') (y : Exit × Act) (w : World) (K K' : Exit × Act → World → Prop)
    (h : ∀ y w', K y w' → K' y w') (hr : next₂ P run y w K) : next₂ P run y w K' := by
  unfold next₂ at *
  split
  · rename_i e; rw [e] at hr; exact hm _ _ _ _ h hr
  · rename_i hne
    cases hy : y.1 <;> rw [hy] at hr <;> first | exact absurd hy (by intro e; exact hne e) | exact h _ _ hr

theorem sim_codeE (hm : P.follows .mixedOrders = true) (hc : CallsOk P Fr G callF) : ∀ n : Nat,
    (∀ (c : Code) (σ : Nm) (t : List Value) (a : Act), TR σ t a → Sim P Fr G σ (codeE P st G callF n c t) CA (codeRun P c a)) ∧
    (∀ (c : Code) (σ : Nm) (t : List Value) (a : Act), TR σ t a → Sim P Fr G σ (codeE P st G callF n (.loop c) t) CA (loopRun P c a)) := by
  intro n
  induction n with
  | zero => exact ⟨fun c σ t a h => sim_fail, fun c σ t a h => sim_fail⟩
  | succ n ih =>
    have hfr := fun (c : Code) (t : List Value) => (framed_codeE (P := P) (st := st) (G := G) hc.1 n c t).mono
    have hloop : ∀ (c : Code) (σ : Nm) (t : List Value) (a : Act), TR σ t a → Sim P Fr G σ (codeE P st G callF (n + 1) (.loop c) t) CA (loopRun P c a) := by
      intro c σ t a h
      unfold codeE
      refine sim_bind' (run₁ := codeRun P c a) (run₂ := next₂ P (loopRun P c)) (hfr _ _) (fun q => ?_) (ih.1 c σ t a h) (fun τ q y hs hA => ?_) (fun _ _ _ h => codeRun_mono h) (next_mono fun _ _ _ _ h => loopRun_mono h) (fun w K hr => loopRun_step (codeRun_mono (fun y w' hy => hy) hr))
      · split
        · exact hfr _ _
        · exact (framed_pure _).mono
      · obtain ⟨x, t'⟩ := q
        obtain ⟨e, a'⟩ := y
        obtain ⟨hx, hT⟩ := hA
        simp only at hx hT
        cases x <;> simp only [Ex.to] at hx <;> subst hx
        · exact ih.2 c τ t' a' hT
        · exact sim_ret ⟨rfl, hT⟩
        · exact sim_ret ⟨rfl, hT⟩
    refine ⟨fun c σ t a h => ?_, hloop⟩
    cases c with
    | skip => exact sim_stop h fun w Q hq => wp_skip hq
    | label l => exact sim_stop h fun w Q hq => wp_label hq
    | region id ops draw =>
      intro H s r w hr hn hR hf hG Q hQ
      unfold codeE at hr
      obtain ⟨r₁, r₂, h₁, h₂, rfl⟩ := bind_eq hr
      simp only [Ev.pure, Option.some.injEq] at h₂
      subst h₂
      refine sim_regionE (P := P) (Fr := Fr) hm hc h H s r₁ w h₁ (all_app hn).1 hR hf hG Q fun a' w' hk => hQ _ _ _ ?_
      obtain ⟨τ, b1, b2, b3, b4⟩ := hk
      exact ⟨τ, b1, b2, b3, rfl, b4⟩
    | seq x y =>
      unfold codeE
      refine sim_bind' (run₁ := codeRun P x a) (run₂ := next₂ P (codeRun P y)) (hfr _ _) (fun q => ?_) (ih.1 x σ t a h) (fun τ q e hs hA => ?_) (fun _ _ _ h => codeRun_mono h) (next_mono fun _ _ _ _ h => codeRun_mono h) (fun w K hr => ?_)
      · split
        · exact hfr _ _
        · exact (framed_pure _).mono
      · obtain ⟨x', t'⟩ := q
        obtain ⟨e, a'⟩ := e
        obtain ⟨hx, hT⟩ := hA
        simp only at hx hT
        cases x' <;> simp only [Ex.to] at hx <;> subst hx
        · exact ih.1 y τ t' a' hT
        · exact sim_ret ⟨rfl, hT⟩
        · exact sim_ret ⟨rfl, hT⟩
      · intro Q hQ
        refine wp_seq (hr _ fun e a' w' hk => ?_)
        cases e <;> simp only [next₂] at hk <;> simp only [Exit.then] <;> first | exact hk Q hQ | exact hQ _ _ _ hk
    | cond c x y =>
      simp only [codeE]
      split <;> try exact sim_fail
      rename_i v hv
      have hev := h.eval hv
      have hT : ∀ u, v = u → Sim P Fr G σ (match u with | true => codeE P st G callF n x t | false => codeE P st G callF n y t) CA (codeRun P (.cond c x y) a) := by
        intro u hu
        subst hu
        intro H s r w hr hn hR hf hG Q hQ
        cases v with
        | true => exact wp_cond_true hev (ih.1 x σ t a h H s r w hr hn hR hf hG Q hQ)
        | false => exact wp_cond_false hev (ih.1 y σ t a h H s r w hr hn hR hf hG Q hQ)
      refine sim_ask fun q => ?_
      split
      · rename_i u
        exact sim_need fun hn => hT u hn
      · exact hT v rfl
    | block id c =>
      unfold codeE
      intro H s r w hr hn hR hf hG Q hQ
      obtain ⟨r₁, r₂, h₁, h₂, rfl⟩ := bind_eq hr
      have hnm : ∃ x', r₂ = ⟨(x', r₁.val.2), r₁.hp, r₁.sup, [], []⟩ ∧ (match r₁.val.1 with | .exit id' => x' = cond (Nat.beq id' id) .normal (.exit id') | x => x' = x) := by
        cases hx : r₁.val.1 with
        | normal => simp only [hx, Ev.pure, Option.some.injEq] at h₂; subst h₂; exact ⟨_, rfl, rfl⟩
        | ret => simp only [hx, Ev.pure, Option.some.injEq] at h₂; subst h₂; exact ⟨_, rfl, rfl⟩
        | exit id' =>
          simp only [hx] at h₂
          cases hb : Nat.beq id' id <;> (simp only [hb, Ev.pure, Option.some.injEq] at h₂; subst h₂; exact ⟨_, rfl, by simp only [hb]; rfl⟩)
      obtain ⟨x', rfl, hx'⟩ := hnm
      refine wp_block (ih.1 c σ t a h H s r₁ w h₁ (all_app hn).1 hR hf hG _ fun e a' w' hk => ?_)
      obtain ⟨τ, b1, b2, b3, b4, b5⟩ := hk
      simp only at b4 b5
      have fin : ∀ e', x'.to = e' → Q e' a' w' := fun e' he => hQ _ _ _ ⟨τ, b1, b2, b3, he, b5⟩
      cases hx : r₁.val.1 with
      | normal =>
        rw [hx] at hx' b4
        simp only [Ex.to] at b4; subst b4
        simp only at hx'; subst hx'
        exact fin _ rfl
      | ret =>
        rw [hx] at hx' b4
        simp only [Ex.to] at b4; subst b4
        simp only at hx'; subst hx'
        exact fin _ rfl
      | exit id' =>
        rw [hx] at hx' b4
        simp only [Ex.to] at b4; subst b4
        simp only at hx'; subst hx'
        simp only [Exit.inBlock]
        cases hb : Nat.beq id' id with
        | true =>
          rw [if_pos (Nat.eq_of_beq_eq_true hb)]
          exact fin _ (by rw [hb]; rfl)
        | false =>
          rw [if_neg (fun e => by rw [e, Nat.beq_refl] at hb; cases hb)]
          exact fin _ (by rw [hb]; rfl)
    | loop c =>
      intro H s r w hr hn hR hf hG
      exact loopRun_code (hloop c σ t a h H s r w hr hn hR hf hG)
    | exit id => exact sim_stop (x := .exit id) h fun w Q hq => wp_exit hq
    | ret => exact sim_stop (x := .ret) h fun w Q hq => wp_ret hq
    | _ => exact sim_fail

theorem loadE_real {t : TypeId} {n o : Nat} {p : Place} (hσ : σ n = some p) {H : Tr} {w : World} (hR : Rel P Fr G σ H w) {s : Sup} {r : Res Value} (h : loadE P t n o H s = some r) :
    r.hp = H ∧ r.sup = s ∧ ∃ y, (loadVar t ⟨p.b, p.base + o, none⟩).run P w = .ok y w ∧ VR σ r.val y := by
  unfold loadE at h
  cases hd : P.underlying t with
  | none => simp [hd, Ev.fail] at h
  | some d =>
    cases hi : P.info? t with
    | none => simp [hd, hi, Ev.fail] at h
    | some i =>
      simp only [hd, hi] at h
      unfold loadVar
      rw [show (isAgg t >>= _) = (isAgg t).bind _ from rfl, Sem.run_bind', run_isAgg hd]
      simp only [Result.andThen_ok]
      cases ha : isAggD d with
      | true =>
        simp only [ha] at h
        obtain ⟨r₁, r₂, h₁, h₂, rfl⟩ := bind_eq h
        simp only [Ev.pure, Option.some.injEq] at h₂
        subst h₂
        obtain ⟨a1, a2, l, a3, a4, a5⟩ := rds_real hσ hR _ _ _ _ h₁
        have hload : (loadCells ⟨p.b, p.base + o, none⟩ i.size).run P w = .ok l.toArray w := by
          rw [← a4]
          exact run_loadCells_list w _ _ fun j v hj => by rw [add_none]; exact a5 j v hj
        exact ⟨a1, a2, .agg l.toArray, by simp [Sem.run_bind, run_sizeOf hi, hload, pure, Sem.run], .agg (a3.array).1 (a3.array).2⟩
      | false =>
        simp only [ha] at h
        unfold rd at h
        cases hc : cell H n o with
        | none => simp [hc] at h
        | some v =>
          simp only [hc, Option.some.injEq] at h
          subst h
          obtain ⟨B, hB, hv⟩ := cell_some hc
          obtain ⟨q, c, fz, hq, hw, hz, hl, hs, hcells, hro⟩ := hR.blk n B hB
          rw [hσ] at hq; cases hq
          obtain ⟨x, hx, hvx⟩ := hcells o v hv
          have : w.cell? ⟨p.b, p.base + o, none⟩ = some x := by simp [World.cell?, hw, hx]
          exact ⟨rfl, rfl, x, by simp [load, Sem.run, this], hvx⟩

theorem getD_rel {t : List Value} {a : Act} (h : TR σ t a) (k : Nat) : VR σ (t.getD k undef) (a.tmps.getD k undef) := by
  rw [List.getD_eq_getElem?_getD, Array.getD_eq_getD_getElem?, ← Array.getElem?_toList]
  cases hu : t[k]? with
  | none =>
    have : a.tmps.toList[k]? = none := by
      rw [List.getElem?_eq_none_iff] at hu ⊢
      rw [← h.1.1]; exact hu
    rw [this]
    exact .tuple rfl fun i v r hv _ => by simp at hv
  | some v =>
    obtain ⟨r, hr, hvr⟩ := h.1.get hu
    rw [hr]; exact hvr

def resOne (tmps : Array Value) : ResultVar → Sem Value
  | .tmp t => pure (tmps.getD t undef)
  | .cell a t => do loadVar t (← asAddr (tmps.getD a undef))
theorem resL_real {t : List Value} {a : Act} (hT : TR σ t a) {H : Tr} {w : World} (hR : Rel P Fr G σ H w) : ∀ (l : List ResultVar) (s : Sup) (r : Res (List Value)), resL P t l H s = some r →
    r.hp = H ∧ r.sup = s ∧ ∃ ys, (l.mapM (resOne a.tmps)).run P w = .ok ys w ∧ LR σ r.val ys := by
  intro l
  induction l with
  | nil => intro s r h; simp only [resL, Ev.pure, Option.some.injEq] at h; subst h; exact ⟨rfl, rfl, [], rfl, .nil _⟩
  | cons x l ih =>
    intro s r h
    cases x with
    | tmp k =>
      unfold resL at h
      obtain ⟨r₁, r₂, h₁, h₂, rfl⟩ := bind_eq h
      simp only [Ev.pure, Option.some.injEq] at h₂
      subst h₂
      obtain ⟨a1, a2, ys, a3, a4⟩ := ih _ _ h₁
      refine ⟨a1, a2, a.tmps.getD k undef :: ys, ?_, LR.cons (getD_rel hT k) a4⟩
      rw [List.mapM_cons, Sem.run_bind]
      simp [resOne, pure, Sem.run, a3, bind, Sem.run_bind']
    | cell q ty =>
      unfold resL at h
      have hq := getD_rel hT q
      generalize t.getD q undef = z at h hq
      generalize hqr : a.tmps.getD q undef = y at hq
      cases hq <;> try (simp [Ev.fail] at h; done)
      rename_i n o p hσ
      obtain ⟨r₁, r₂, h₁, h₂, rfl⟩ := bind_eq h
      obtain ⟨r₃, r₄, h₃, h₄, rfl⟩ := bind_eq h₂
      simp only [Ev.pure, Option.some.injEq] at h₄
      subst h₄
      obtain ⟨b1, b2, y, b3, b4⟩ := loadE_real hσ hR h₁
      rw [b1, b2] at h₃
      obtain ⟨a1, a2, ys, a3, a4⟩ := ih _ _ h₃
      refine ⟨a1, a2, y :: ys, ?_, LR.cons b4 a4⟩
      rw [List.mapM_cons, Sem.run_bind]
      have : (resOne a.tmps (.cell q ty)).run P w = .ok y w := by
        simp only [resOne, hqr, asAddr]
        exact b3
      rw [this]
      simp [a3, pure, Sem.run, bind, Sem.run_bind']
theorem results_eq (fn : Func) (tmps : Array Value) : results fn tmps = (fn.results.mapM (resOne tmps)).bind fun vs => Sem.pure (if h : vs.size = 1 then vs[0] else .tuple vs) := by
  unfold results resOne
  rfl
theorem oneOf_rel {l ys : List Value} (h : LR σ l ys) : VR σ (oneOf l) (if h : ys.toArray.size = 1 then ys.toArray[0] else .tuple ys.toArray) := by
  cases l with
  | nil => cases ys with
    | nil => exact .tuple rfl fun i v r hv _ => by simp at hv
    | cons => simp [LR] at h
  | cons a l => cases ys with
    | nil => simp [LR] at h
    | cons b ys =>
      cases l with
      | nil => cases ys with
        | nil => exact h.2 0 a b rfl rfl
        | cons => simp [LR] at h
      | cons c l => cases ys with
        | nil => simp [LR] at h
        | cons d ys => exact .tuple h.array.1 h.array.2

theorem rel_below {H : Tr} {w w' : World} (h : Rel P Fr G σ H w) (hb : Below w.heap.size w w') : Rel P Fr G σ H w' ∧ Out Fr w w' := by
  refine ⟨⟨h.glob, fun n B hB => ?_, h.apart, fun b hf => ?_⟩, hb.os, hb.tape, hb.output, hb.size, fun b hf => hb.block b (h.lt b hf)⟩
  · obtain ⟨p, c, fz, hp, hw, rest⟩ := h.blk n B hB
    have hlt : p.b < w.heap.size := by
      rcases Nat.lt_or_ge p.b w.heap.size with x | x
      · exact x
      · simp [Array.getElem?_eq_none x] at hw
    exact ⟨p, c, fz, hp, by rw [hb.block _ hlt]; exact hw, rest⟩
  · rw [hb.block b (h.lt b hf)]; exact h.prot b hf

theorem callsOk (hm : P.follows .mixedOrders = true) (cf : Nat) {K : FuncId → Array Value → Option Value} (hK : ∀ f a v, K f a = some v → PureC P Fr f a v) : ∀ n : Nat, CallsOk P Fr G (callE P st Fr G cf K n) := by
  intro n
  induction n with
  | zero => exact ⟨fun f a => framed_fail, fun σ f a b h => sim_fail⟩
  | succ n ih =>
    refine ⟨framed_callE cf K (n + 1), fun σ f a b h => ?_⟩
    have known : ∀ v, (plain 6 v && a.toList.all (plain 6)) = true → PureC P Fr f a v → Sim P Fr G σ (Ev.pure v) VR (runC P f b) := by
      intro v hp hn
      simp only [Bool.and_eq_true] at hp
      intro H s r w hr hnn hR hf hG
      simp only [Ev.pure, Option.some.injEq] at hr
      subst hr
      have hab : a = b := ar_eq h.1 h.2 (fun v hv => List.all_eq_true.1 hp.2 v hv) fun v r hv hr => plain_eq 6 v r hv hr
      subst hab
      refine runC_mono (fun y w' hy => ?_) (hn w hR.prot)
      obtain ⟨rfl, hb⟩ := hy
      obtain ⟨h1, h2⟩ := rel_below hR hb
      exact ⟨σ, .refl .., h1, h2, plain_refl 6 y hp.1⟩
    unfold callE
    refine sim_ask fun x => ?_
    split
    · rename_i v
      cases hp : (plain 6 v && a.toList.all (plain 6)) with
      | false => exact sim_fail
      | true => exact sim_need fun hn => known v hp hn
    · cases hk : K f a with
     | some v =>
      simp only
      cases hp : (plain 6 v && a.toList.all (plain 6)) with
      | false => exact sim_fail
      | true => exact known v hp (hK f a v hk)
     | none =>
      cases hfn : P.funcs[f]? with
      | none => exact sim_fail
      | some fn =>
        simp only
        cases hbd : fn.body with
        | none => exact sim_fail
        | some c =>
          intro H s r w hr hn hR hf hG
          simp only at hr
          obtain ⟨r₁, r₂, h₁, h₂, rfl⟩ := bind_eq hr
          have hT : TR σ (a.toList ++ List.replicate (fn.ntmps - a.size) undef) { tmps := b ++ Array.replicate (fn.ntmps - b.size) undef, defers := [] } := by
            refine ⟨?_, rfl⟩
            rw [Array.toList_append, Array.toList_replicate, ← h.1]
            refine (AR.list h).append ⟨rfl, fun i v r hv hr => ?_⟩
            rw [hv] at hr; cases hr
            have := List.mem_of_getElem? hv
            rw [List.mem_replicate] at this
            rw [this.2]
            exact .tuple rfl fun i v r hv _ => by simp at hv
          have hx : (∃ r₃ r₄, resL P r₁.val.2 fn.results.toList r₁.hp r₁.sup = some r₃ ∧ r₂ = ⟨oneOf r₃.val, r₃.hp, r₃.sup, r₃.log ++ r₄, r₃.need ++ []⟩) ∧ ∀ id, r₁.val.1 ≠ .exit id := by
            cases hv : r₁.val.1 with
            | exit id => rw [hv] at h₂; simp [Ev.fail] at h₂
            | normal =>
              rw [hv] at h₂
              obtain ⟨r₃, r₄, h₃, h₄, rfl⟩ := bind_eq h₂
              simp only [Ev.pure, Option.some.injEq] at h₄
              subst h₄
              exact ⟨⟨r₃, [], h₃, rfl⟩, fun id h => by cases h⟩
            | ret =>
              rw [hv] at h₂
              obtain ⟨r₃, r₄, h₃, h₄, rfl⟩ := bind_eq h₂
              simp only [Ev.pure, Option.some.injEq] at h₄
              subst h₄
              exact ⟨⟨r₃, [], h₃, rfl⟩, fun id h => by cases h⟩
          obtain ⟨⟨r₃, lg, h₃, rfl⟩, hnx⟩ := hx
          have hres := framed_resL (P := P) r₁.val.2 fn.results.toList
          have hm₂ := hres.mono _ _ _ h₃
          unfold runC
          refine calls_of_wp hfn hbd ?_
          refine (sim_codeE (P := P) (Fr := Fr) (G := G) hm ih cf).1 c σ _ _ hT H s r₁ w h₁ (all_app hn).1 hR (fun n hx => hf n ⟨hx.1, Nat.lt_of_lt_of_le hx.2 hm₂⟩) hG _ fun e a' w' hk => ?_
          obtain ⟨τ, b1, b2, b3, b4, b5⟩ := hk
          simp only at b4 b5
          obtain ⟨c1, c2, ys, c3, c4⟩ := resL_real b5 b2 _ _ _ h₃
          have hrun : (results fn a'.tmps).run P w' = .ok (if h : ys.toArray.size = 1 then ys.toArray[0] else .tuple ys.toArray) w' := by
            rw [results_eq, Sem.run_bind', Array.mapM_eq_mapM_toList, Sem.run_map, c3]
            rfl
          have fin : a'.defers = [] ∧ ∃ v, (results fn a'.tmps).run P w' = .ok v w' ∧ ∃ τ, Aft σ τ s.name r₃.sup.name ∧ Rel P Fr G τ r₃.hp w' ∧ Out Fr w w' ∧ VR τ (oneOf r₃.val) v :=
            ⟨b5.2, _, hrun, τ, by rw [c2]; exact b1, by rw [c1]; exact b2, b3, oneOf_rel c4⟩
          cases hv : r₁.val.1 with
          | exit id => exact (hnx id hv).elim
          | normal => rw [hv] at b4; simp only [Ex.to] at b4; subst b4; exact fin
          | ret => rw [hv] at b4; simp only [Ex.to] at b4; subst b4; exact fin
end
end Go.Proofs.YtakfoidmabendaaDoor.E
