/- Contracts of functions of this translation, and what they come to; what is not used is left out. -/
import Derived.Control
import Derived.Test.YtofdiilfedjhkaaDoorKg7p0

section
/- A call that the machine reckons is answered so by the model. -/
set_option linter.unusedVariables false
set_option linter.unusedSimpArgs false
namespace Go.Proofs.YtofdiilfedjhkaaDoor.E
open Go.RowKit
section
variable {P : Program} {st : Bool} {Fr : Prot} {G : Nat} {callF : FuncId → Array Value → Ev Value} {σ : Nm}

theorem sim_stop {x : Ex} {t : List Value} {a : Act} {c : Code} (h : TR σ t a) (hw : ∀ (w : World) (Q : Exit → Act → World → Prop), Q x.to a w → c.wp P Q a w) : Sim P Fr G σ (Ev.pure (x, t)) CA (codeRun P c a) := by
  intro H s r w hr hn hR hf hG
  simp only [Ev.pure, Option.some.injEq] at hr
  subst hr
  intro Q hQ
  exact hw w Q (hQ _ _ _ ⟨σ, .refl .., hR, .refl .., rfl, h⟩)

def next₂ (P : Program) (run : Act → World → (Exit × Act → World → Prop) → Prop) (y : Exit × Act) (w : World) (K : Exit × Act → World → Prop) : Prop := match y.1 with
  | .normal => run y.2 w K
  | e => K (e, y.2) w
theorem next_mono {run : Act → World → (Exit × Act → World → Prop) → Prop} (hm : ∀ a w K K', (∀ y w', K y w' → K' y w') → run a w K → run a w K') (y : Exit × Act) (w : World) (K K' : Exit × Act → World → Prop)
    (h : ∀ y w', K y w' → K' y w') (hr : next₂ P run y w K) : next₂ P run y w K' := by
  unfold next₂ at *
  split
  · rename_i e; rw [e] at hr; exact hm _ _ _ _ h hr
  · rename_i hne
    cases hy : y.1 <;> rw [hy] at hr <;> first | exact absurd hy (by intro e; exact hne e) | exact h _ _ hr

theorem sim_codeE (hm : P.follows .mixedOrders = true) (hc : CallsOk P Fr G callF) : ∀ n : Nat,
    (∀ (c : Code) (σ : Nm) (t : List Value) (a : Act), TR σ t a → Sim P Fr G σ (codeE P st G callF n c t) CA (codeRun P c a)) ∧
    (∀ (c : Code) (σ : Nm) (t : List Value) (a : Act), TR σ t a → Sim P Fr G σ (codeE P st G callF n (.loop c) t) CA (loopRun P c a)) := by
  intro n
  induction n with
  | zero => exact ⟨fun c σ t a h => sim_fail, fun c σ t a h => sim_fail⟩
  | succ n ih =>
    have hfr := fun (c : Code) (t : List Value) => (framed_codeE (P := P) (st := st) (G := G) hc.1 n c t).mono
    have hloop : ∀ (c : Code) (σ : Nm) (t : List Value) (a : Act), TR σ t a → Sim P Fr G σ (codeE P st G callF (n + 1) (.loop c) t) CA (loopRun P c a) := by
      intro c σ t a h
      unfold codeE
      refine sim_bind' (run₁ := codeRun P c a) (run₂ := next₂ P (loopRun P c)) (hfr _ _) (fun q => ?_) (ih.1 c σ t a h) (fun τ q y hs hA => ?_) (fun _ _ _ h => codeRun_mono h) (next_mono fun _ _ _ _ h => loopRun_mono h) (fun w K hr => loopRun_step (codeRun_mono (fun y w' hy => hy) hr))
      · split
        · exact hfr _ _
        · exact (framed_pure _).mono
      · obtain ⟨x, t'⟩ := q
        obtain ⟨e, a'⟩ := y
        obtain ⟨hx, hT⟩ := hA
        simp only at hx hT
        cases x <;> simp only [Ex.to] at hx <;> subst hx
        · exact ih.2 c τ t' a' hT
        · exact sim_ret ⟨rfl, hT⟩
        · exact sim_ret ⟨rfl, hT⟩
    refine ⟨fun c σ t a h => ?_, hloop⟩
    cases c with
    | skip => exact sim_stop h fun w Q hq => wp_skip hq
    | label l => exact sim_stop h fun w Q hq => wp_label hq
    | region id ops draw =>
      intro H s r w hr hn hR hf hG Q hQ
      unfold codeE at hr
      obtain ⟨r₁, r₂, h₁, h₂, rfl⟩ := bind_eq hr
      simp only [Ev.pure, Option.some.injEq] at h₂
      subst h₂
      refine sim_regionE (P := P) (Fr := Fr) hm hc h H s r₁ w h₁ (all_app hn).1 hR hf hG Q fun a' w' hk => hQ _ _ _ ?_
      obtain ⟨τ, b1, b2, b3, b4⟩ := hk
      exact ⟨τ, b1, b2, b3, rfl, b4⟩
    | seq x y =>
      unfold codeE
      refine sim_bind' (run₁ := codeRun P x a) (run₂ := next₂ P (codeRun P y)) (hfr _ _) (fun q => ?_) (ih.1 x σ t a h) (fun τ q e hs hA => ?_) (fun _ _ _ h => codeRun_mono h) (next_mono fun _ _ _ _ h => codeRun_mono h) (fun w K hr => ?_)
      · split
        · exact hfr _ _
        · exact (framed_pure _).mono
      · obtain ⟨x', t'⟩ := q
        obtain ⟨e, a'⟩ := e
        obtain ⟨hx, hT⟩ := hA
        simp only at hx hT
        cases x' <;> simp only [Ex.to] at hx <;> subst hx
        · exact ih.1 y τ t' a' hT
        · exact sim_ret ⟨rfl, hT⟩
        · exact sim_ret ⟨rfl, hT⟩
      · intro Q hQ
        refine wp_seq (hr _ fun e a' w' hk => ?_)
        cases e <;> simp only [next₂] at hk <;> simp only [Exit.then] <;> first | exact hk Q hQ | exact hQ _ _ _ hk
    | cond c x y =>
      simp only [codeE]
      split <;> try exact sim_fail
      rename_i v hv
      have hev := h.eval hv
      have hT : ∀ u, v = u → Sim P Fr G σ (match u with | true => codeE P st G callF n x t | false => codeE P st G callF n y t) CA (codeRun P (.cond c x y) a) := by
        intro u hu
        subst hu
        intro H s r w hr hn hR hf hG Q hQ
        cases v with
        | true => exact wp_cond_true hev (ih.1 x σ t a h H s r w hr hn hR hf hG Q hQ)
        | false => exact wp_cond_false hev (ih.1 y σ t a h H s r w hr hn hR hf hG Q hQ)
      refine sim_ask fun q => ?_
      split
      · rename_i u
        exact sim_need fun hn => hT u hn
      · exact hT v rfl
    | block id c =>
      unfold codeE
      intro H s r w hr hn hR hf hG Q hQ
      obtain ⟨r₁, r₂, h₁, h₂, rfl⟩ := bind_eq hr
      have hnm : ∃ x', r₂ = ⟨(x', r₁.val.2), r₁.hp, r₁.sup, [], []⟩ ∧ (match r₁.val.1 with | .exit id' => x' = cond (Nat.beq id' id) .normal (.exit id') | x => x' = x) := by
        cases hx : r₁.val.1 with
        | normal => simp only [hx, Ev.pure, Option.some.injEq] at h₂; subst h₂; exact ⟨_, rfl, rfl⟩
        | ret => simp only [hx, Ev.pure, Option.some.injEq] at h₂; subst h₂; exact ⟨_, rfl, rfl⟩
        | exit id' =>
          simp only [hx] at h₂
          cases hb : Nat.beq id' id <;> (simp only [hb, Ev.pure, Option.some.injEq] at h₂; subst h₂; exact ⟨_, rfl, by simp only [hb]; rfl⟩)
      obtain ⟨x', rfl, hx'⟩ := hnm
      refine wp_block (ih.1 c σ t a h H s r₁ w h₁ (all_app hn).1 hR hf hG _ fun e a' w' hk => ?_)
      obtain ⟨τ, b1, b2, b3, b4, b5⟩ := hk
      simp only at b4 b5
      have fin : ∀ e', x'.to = e' → Q e' a' w' := fun e' he => hQ _ _ _ ⟨τ, b1, b2, b3, he, b5⟩
      cases hx : r₁.val.1 with
      | normal =>
        rw [hx] at hx' b4
        simp only [Ex.to] at b4; subst b4
        simp only at hx'; subst hx'
        exact fin _ rfl
      | ret =>
        rw [hx] at hx' b4
        simp only [Ex.to] at b4; subst b4
        simp only at hx'; subst hx'
        exact fin _ rfl
      | exit id' =>
        rw [hx] at hx' b4
        simp only [Ex.to] at b4; subst b4
        simp only at hx'; subst hx'
        simp only [Exit.inBlock]
        cases hb : Nat.beq id' id with
        | true =>
          rw [if_pos (Nat.eq_of_beq_eq_true hb)]
          exact fin _ (by rw [hb]; rfl)
        | false =>
          rw [if_neg (fun e => by rw [e, Nat.beq_refl] at hb; cases hb)]
          exact fin _ (by rw [hb]; rfl)
    | loop c =>
      intro H s r w hr hn hR hf hG
      exact loopRun_code (hloop c σ t a h H s r w hr hn hR hf hG)
    | exit id => exact sim_stop (x := .exit id) h fun w Q hq => wp_exit hq
    | ret => exact sim_stop (x := .ret) h fun w Q hq => wp_ret hq
    | _ => exact sim_fail

theorem loadE_real {t : TypeId} {n o : Nat} {p : Place} (hσ : σ n = some p) {H : Tr} {w : World} (hR : Rel P Fr G σ H w) {s : Sup} {r : Res Value} (h : loadE P t n o H s = some r) :
    r.hp = H ∧ r.sup = s ∧ ∃ y, (loadVar t ⟨p.b, p.base + o, none⟩).run P w = .ok y w ∧ VR σ r.val y := by
  unfold loadE at h
  cases hd : P.underlying t with
  | none => simp [hd, Ev.fail] at h
  | some d =>
    cases hi : P.info? t with
    | none => simp [hd, hi, Ev.fail] at h
    | some i =>
      simp only [hd, hi] at h
      unfold loadVar
      rw [show (isAgg t >>= _) = (isAgg t).bind _ from rfl, Sem.run_bind', run_isAgg hd]
      simp only [Result.andThen_ok]
      cases ha : isAggD d with
      | true =>
        simp only [ha] at h
        obtain ⟨r₁, r₂, h₁, h₂, rfl⟩ := bind_eq h
        simp only [Ev.pure, Option.some.injEq] at h₂
        subst h₂
        obtain ⟨a1, a2, l, a3, a4, a5⟩ := rds_real hσ hR _ _ _ _ h₁
        have hload : (loadCells ⟨p.b, p.base + o, none⟩ i.size).run P w = .ok l.toArray w := by
          rw [← a4]
          exact run_loadCells_list w _ _ fun j v hj => by rw [add_none]; exact a5 j v hj
        exact ⟨a1, a2, .agg l.toArray, by simp [Sem.run_bind, run_sizeOf hi, hload, pure, Sem.run], .agg (a3.array).1 (a3.array).2⟩
      | false =>
        simp only [ha] at h
        unfold rd at h
        cases hc : cell H n o with
        | none => simp [hc] at h
        | some v =>
          simp only [hc, Option.some.injEq] at h
          subst h
          obtain ⟨B, hB, hv⟩ := cell_some hc
          obtain ⟨q, c, fz, hq, hw, hz, hl, hs, hcells, hro⟩ := hR.blk n B hB
          rw [hσ] at hq; cases hq
          obtain ⟨x, hx, hvx⟩ := hcells o v hv
          have : w.cell? ⟨p.b, p.base + o, none⟩ = some x := by simp [World.cell?, hw, hx]
          exact ⟨rfl, rfl, x, by simp [load, Sem.run, this], hvx⟩

theorem getD_rel {t : List Value} {a : Act} (h : TR σ t a) (k : Nat) (hj : notJ (t.getD k undef) = true) : VR σ (t.getD k undef) (a.tmps.getD k undef) := by
  rw [List.getD_eq_getElem?_getD] at hj
  rw [List.getD_eq_getElem?_getD, Array.getD_eq_getD_getElem?, ← Array.getElem?_toList]
  cases hu : t[k]? with
  | none =>
    have : a.tmps.toList[k]? = none := by
      rw [List.getElem?_eq_none_iff] at hu ⊢
      rw [← h.1.1]; exact hu
    rw [this]
    exact .tuple rfl fun i v r hv _ => by simp at hv
  | some v =>
    rw [hu] at hj
    obtain ⟨r, hr, hvr⟩ := h.1.get hu hj
    rw [hr]; exact hvr

def resOne (tmps : Array Value) : ResultVar → Sem Value
  | .tmp t => pure (tmps.getD t undef)
  | .cell a t => do loadVar t (← asAddr (tmps.getD a undef))
theorem resL_real {t : List Value} {a : Act} (hT : TR σ t a) {H : Tr} {w : World} (hR : Rel P Fr G σ H w) : ∀ (l : List ResultVar) (s : Sup) (r : Res (List Value)), resL P t l H s = some r →
    r.hp = H ∧ r.sup = s ∧ ∃ ys, (l.mapM (resOne a.tmps)).run P w = .ok ys w ∧ LR σ r.val ys := by
  intro l
  induction l with
  | nil => intro s r h; simp only [resL, Ev.pure, Option.some.injEq] at h; subst h; exact ⟨rfl, rfl, [], rfl, .nil _⟩
  | cons x l ih =>
    intro s r h
    cases x with
    | tmp k =>
      unfold resL at h
      cases hj : notJ (t.getD k undef) with
      | false => rw [hj] at h; cases h
      | true =>
      rw [hj] at h
      obtain ⟨r₁, r₂, h₁, h₂, rfl⟩ := bind_eq h
      simp only [Ev.pure, Option.some.injEq] at h₂
      subst h₂
      obtain ⟨a1, a2, ys, a3, a4⟩ := ih _ _ h₁
      refine ⟨a1, a2, a.tmps.getD k undef :: ys, ?_, LR.cons (getD_rel hT k hj) a4⟩
      rw [List.mapM_cons, Sem.run_bind]
      simp [resOne, pure, Sem.run, a3, bind, Sem.run_bind']
    | cell q ty =>
      unfold resL at h
      have hq := getD_rel hT q
      generalize t.getD q undef = z at h hq
      have hjz : notJ z = true := by
        cases z with
        | chan c => simp [Ev.fail] at h
        | _ => rfl
      have hq := hq hjz
      generalize hqr : a.tmps.getD q undef = y at hq
      cases hq <;> try (simp [Ev.fail] at h; done)
      rename_i n o p hσ
      obtain ⟨r₁, r₂, h₁, h₂, rfl⟩ := bind_eq h
      obtain ⟨r₃, r₄, h₃, h₄, rfl⟩ := bind_eq h₂
      simp only [Ev.pure, Option.some.injEq] at h₄
      subst h₄
      obtain ⟨b1, b2, y, b3, b4⟩ := loadE_real hσ hR h₁
      rw [b1, b2] at h₃
      obtain ⟨a1, a2, ys, a3, a4⟩ := ih _ _ h₃
      refine ⟨a1, a2, y :: ys, ?_, LR.cons b4 a4⟩
      rw [List.mapM_cons, Sem.run_bind]
      have : (resOne a.tmps (.cell q ty)).run P w = .ok y w := by
        simp only [resOne, hqr, asAddr]
        exact b3
      rw [this]
      simp [a3, pure, Sem.run, bind, Sem.run_bind']
theorem results_eq (fn : Func) (tmps : Array Value) : results fn tmps = (fn.results.mapM (resOne tmps)).bind fun vs => Sem.pure (if h : vs.size = 1 then vs[0] else .tuple vs) := by
  unfold results resOne
  rfl
theorem oneOf_rel {l ys : List Value} (h : LR σ l ys) : VR σ (oneOf l) (if h : ys.toArray.size = 1 then ys.toArray[0] else .tuple ys.toArray) := by
  cases l with
  | nil => cases ys with
    | nil => exact .tuple rfl fun i v r hv _ => by simp at hv
    | cons => simp [LR] at h
  | cons a l => cases ys with
    | nil => simp [LR] at h
    | cons b ys =>
      cases l with
      | nil => cases ys with
        | nil => exact h.2 0 a b rfl rfl
        | cons => simp [LR] at h
      | cons c l => cases ys with
        | nil => simp [LR] at h
        | cons d ys => exact .tuple h.array.1 h.array.2

theorem rel_below {H : Tr} {w w' : World} (h : Rel P Fr G σ H w) (hb : Below w.heap.size w w') : Rel P Fr G σ H w' ∧ Out Fr w w' := by
  refine ⟨⟨h.glob, fun n B hB => ?_, h.apart, fun b hf => ?_, h.ext⟩, hb.os, hb.tape, hb.output, hb.size, fun b hf => hb.block b (h.lt b hf)⟩
  · obtain ⟨p, c, fz, hp, hw, rest⟩ := h.blk n B hB
    have hlt : p.b < w.heap.size := by
      rcases Nat.lt_or_ge p.b w.heap.size with x | x
      · exact x
      · simp [Array.getElem?_eq_none x] at hw
    exact ⟨p, c, fz, hp, by rw [hb.block _ hlt]; exact hw, rest⟩
  · rw [hb.block b (h.lt b hf)]; exact h.prot b hf

theorem rel_names {H : Tr} {w : World} {σ τ : Nm} (h : Rel P Fr G σ H w) (hs : Sub σ τ) (hn : ∀ n p, τ n = some p → σ n = some p ∨ H.get n = none) : Rel P Fr G τ H w := by
  have back : ∀ {n : Nat} {B : Blk} {p : Place}, H.get n = some B → τ n = some p → σ n = some p := fun hB hp => by
    rcases hn _ _ hp with x | x
    · exact x
    · rw [x] at hB; cases hB
  refine ⟨fun g hg => ?_, fun n B hB => ?_, fun n m B C p q hB hC hne hp hq => h.apart n m B C p q hB hC hne (back hB hp) (back hC hq), h.prot, fun n p hp => hs n p (h.ext n p hp)⟩
  · obtain ⟨c, hc⟩ := h.glob g hg
    exact ⟨c, hs _ _ hc⟩
  · obtain ⟨p, c, fz, b1, b2, b3, b4, b5, b6, b7⟩ := h.blk n B hB
    refine ⟨p, c, fz, hs _ _ b1, b2, b3, b4, b5, fun o v hv => ?_, b7⟩
    obtain ⟨r, hr1, hr2⟩ := b6 o v hv
    exact ⟨r, hr1, hr2.sub hs⟩
theorem callsOk (hm : P.follows .mixedOrders = true) (cf : Nat) {K : FuncId → Array Value → Option Value} (hK : ∀ f a v, K f a = some v → PureK P Fr f a v) : ∀ n : Nat, CallsOk P Fr G (callE P st Fr G cf K n) := by
  intro n
  induction n with
  | zero => exact ⟨fun f a => framed_fail, fun σ f a b h => sim_fail⟩
  | succ n ih =>
    refine ⟨framed_callE cf K (n + 1), fun σ f a b h => ?_⟩
    have known : Nat.ble BIG f = false → ∀ v, (plain 6 v && a.toList.all (plain 6)) = true → PureK P Fr f a v → Sim P Fr G σ (Ev.pure v) VR (runX P f b) := by
      intro hbig v hp hn
      simp only [Bool.and_eq_true] at hp
      intro H s r w hr hnn hR hf hG
      simp only [Ev.pure, Option.some.injEq] at hr
      subst hr
      have hab : a = b := ar_eq h.1 h.2 (fun v hv => List.all_eq_true.1 hp.2 v hv) fun v r hv hr => plain_eq 6 v r hv hr
      subst hab
      rw [runX_of hbig]
      refine runC_mono (fun y w' hy => ?_) (hn w hR.prot)
      obtain ⟨rfl, hb⟩ := hy
      obtain ⟨h1, h2⟩ := rel_below hR hb
      exact ⟨σ, .refl .., h1, h2, plain_refl 6 y hp.1⟩
    unfold callE
    refine sim_ask fun x => ?_
    split
    · rename_i v
      refine sim_need fun hn => ?_
      intro H s r w hr hnn hR hf hG
      simp only [Ev.pure, Option.some.injEq] at hr
      subst hr
      refine runX_mono (fun y w' hy => ?_) (hn σ b hR.ext h w hR.prot)
      obtain ⟨hv, hb⟩ := hy
      obtain ⟨h1, h2⟩ := rel_below hR hb
      exact ⟨σ, .refl .., h1, h2, hv.sub hR.ext⟩
    · rename_i v
      intro H s r w hr hnn hR hf hG
      obtain ⟨n, l⟩ := s
      simp only [Ev.bind, bump, natK_eq, need, Ev.pure, Option.some.injEq] at hr
      subst hr
      have hp : PureF P Fr f a n v := hnn _ (by simp)
      refine runX_mono (fun y w' hy => ?_) (hp σ b hR.ext h w hR.prot)
      obtain ⟨⟨q, hv⟩, hb⟩ := hy
      obtain ⟨h1, h2⟩ := rel_below hR hb
      have h0 : σ n = none := hf n ⟨Nat.le_refl n, Nat.lt_succ_self n⟩
      have hgn : H.get n = none := by
        cases hg : H.get n with
        | none => rfl
        | some B =>
          obtain ⟨p, _, _, hp, _⟩ := hR.blk n B hg
          rw [h0] at hp; cases hp
      have hsub : Sub σ (fun m => if m = n then some q else σ m) := fun m p hm => by
        by_cases e : m = n
        · subst e; rw [h0] at hm; cases hm
        · simp only [if_neg e]; exact hm
      refine ⟨fun m => if m = n then some q else σ m, ⟨hsub, fun m p hm => ?_⟩, rel_names h1 hsub fun m p hm => ?_, h2, hv.sub fun m p hm => ?_⟩
      · by_cases e : m = n
        · subst e; exact .inr ⟨Nat.le_refl _, Nat.lt_succ_self _⟩
        · simp only [if_neg e] at hm; exact .inl hm
      · by_cases e : m = n
        · subst e; exact .inr hgn
        · simp only [if_neg e] at hm; exact .inl hm
      · by_cases e : m = n
        · subst e; simpa using hm
        · simp only [if_neg e] at hm ⊢; exact hR.ext m p hm
    · cases hbig : Nat.ble BIG f with
      | true => exact sim_fail
      | false =>
      simp only
      cases hk : K f a with
     | some v =>
      simp only
      cases hp : (plain 6 v && a.toList.all (plain 6)) with
      | false => exact sim_fail
      | true => exact known hbig v hp (hK f a v hk)
     | none =>
      cases hfn : P.funcs[f]? with
      | none => exact sim_fail
      | some fn =>
        simp only
        cases hbd : fn.body with
        | none => exact sim_fail
        | some c =>
          intro H s r w hr hn hR hf hG
          simp only at hr
          obtain ⟨r₁, r₂, h₁, h₂, rfl⟩ := bind_eq hr
          have hT : TR σ (a.toList ++ List.replicate (fn.ntmps - a.size) undef) { tmps := b ++ Array.replicate (fn.ntmps - b.size) undef, defers := [] } := by
            refine ⟨LR.tj ?_, rfl⟩
            rw [Array.toList_append, Array.toList_replicate, ← h.1]
            refine (AR.list h).append ⟨rfl, fun i v r hv hr => ?_⟩
            rw [hv] at hr; cases hr
            have := List.mem_of_getElem? hv
            rw [List.mem_replicate] at this
            rw [this.2]
            exact .tuple rfl fun i v r hv _ => by simp at hv
          have hx : (∃ r₃ r₄, resL P r₁.val.2 fn.results.toList r₁.hp r₁.sup = some r₃ ∧ r₂ = ⟨oneOf r₃.val, r₃.hp, r₃.sup, r₃.log ++ r₄, r₃.need ++ []⟩) ∧ ∀ id, r₁.val.1 ≠ .exit id := by
            cases hv : r₁.val.1 with
            | exit id => rw [hv] at h₂; simp [Ev.fail] at h₂
            | normal =>
              rw [hv] at h₂
              obtain ⟨r₃, r₄, h₃, h₄, rfl⟩ := bind_eq h₂
              simp only [Ev.pure, Option.some.injEq] at h₄
              subst h₄
              exact ⟨⟨r₃, [], h₃, rfl⟩, fun id h => by cases h⟩
            | ret =>
              rw [hv] at h₂
              obtain ⟨r₃, r₄, h₃, h₄, rfl⟩ := bind_eq h₂
              simp only [Ev.pure, Option.some.injEq] at h₄
              subst h₄
              exact ⟨⟨r₃, [], h₃, rfl⟩, fun id h => by cases h⟩
          obtain ⟨⟨r₃, lg, h₃, rfl⟩, hnx⟩ := hx
          have hres := framed_resL (P := P) r₁.val.2 fn.results.toList
          have hm₂ := hres.mono _ _ _ h₃
          rw [runX_of hbig]
          unfold runC
          refine calls_of_wp hfn hbd ?_
          refine (sim_codeE (P := P) (Fr := Fr) (G := G) hm ih cf).1 c σ _ _ hT H s r₁ w h₁ (all_app hn).1 hR (fun n hx => hf n ⟨hx.1, Nat.lt_of_lt_of_le hx.2 hm₂⟩) hG _ fun e a' w' hk => ?_
          obtain ⟨τ, b1, b2, b3, b4, b5⟩ := hk
          simp only at b4 b5
          obtain ⟨c1, c2, ys, c3, c4⟩ := resL_real b5 b2 _ _ _ h₃
          have hrun : (results fn a'.tmps).run P w' = .ok (if h : ys.toArray.size = 1 then ys.toArray[0] else .tuple ys.toArray) w' := by
            rw [results_eq, Sem.run_bind', Array.mapM_eq_mapM_toList, Sem.run_map, c3]
            rfl
          have fin : a'.defers = [] ∧ ∃ v, (results fn a'.tmps).run P w' = .ok v w' ∧ ∃ τ, Aft σ τ s.name r₃.sup.name ∧ Rel P Fr G τ r₃.hp w' ∧ Out Fr w w' ∧ VR τ (oneOf r₃.val) v :=
            ⟨b5.2, _, hrun, τ, by rw [c2]; exact b1, by rw [c1]; exact b2, b3, oneOf_rel c4⟩
          cases hv : r₁.val.1 with
          | exit id => exact (hnx id hv).elim
          | normal => rw [hv] at b4; simp only [Ex.to] at b4; subst b4; exact fin
          | ret => rw [hv] at b4; simp only [Ex.to] at b4; subst b4; exact fin
end
end Go.Proofs.YtofdiilfedjhkaaDoor.E
end

section
/- Without anything known ahead nothing is asked; a call in whatever world. -/
set_option linter.unusedVariables false
set_option linter.unusedSimpArgs false
set_option linter.unusedSectionVars false
namespace Go.Proofs.YtofdiilfedjhkaaDoor.E
open Go.RowKit

def Calm {α : Type} (e : Ev α) : Prop := ∀ H nm r, e H ⟨nm, []⟩ = some r → All r.need ∧ r.sup.ora = []
section
variable {P : Program} {st : Bool} {callF : FuncId → Array Value → Ev Value} (hc : ∀ f a, Calm (callF f a))
include hc
end
/-- What a call answers in every world, of arguments without names. -/
theorem pureC_of {P : Program} {f : FuncId} {args : Array Value} {v : Value} (h : ∀ w, Calls P f args w fun e w' => e = .returned v ∧ Below w.heap.size w w') (hp : plain 6 v = true := by rfl) (ha : args.toList.all (plain 6) = true := by rfl) (Fr : Prot) (hf : Nat.ble BIG f = false := by rfl) : PureC P Fr f args v := by
  intro σ args' _ hA w _
  have : args = args' := ar_eq hA.1 hA.2 (fun v hv => List.all_eq_true.1 ha v hv) fun v r hv hr => plain_eq 6 v r hv hr
  subst this
  rw [runX_of hf]
  refine Calls.mono (h w) fun e w' he => ?_
  obtain ⟨rfl, hb⟩ := he
  exact ⟨plain_refl 6 v hp, hb⟩

/-- No block is protected by name; those below a number are. -/
def protOf (w : World) : Prot := ⟨fun b => b < w.heap.size, fun b => (w.heap[b]?).getD default, fun _ => none⟩
def nmOf (G : Nat) : Nm := fun n => if n < G then some ⟨n, 0, 0, .nilFunc⟩ else none
end Go.Proofs.YtofdiilfedjhkaaDoor.E
namespace Go.Proofs.YtofdiilfedjhkaaDoor.E
open Go.RowKit
theorem all_cons {p : Prop} {l : List Prop} (h : p) (k : All l) : All (p :: l) := fun q hq => by
  rcases List.mem_cons.1 hq with rfl | hq
  · exact h
  · exact k q hq
/-- The machine's answer, and what it needs. -/
def outc (P : Program) (st : Bool) (K : FuncId → Array Value → Option Value) (Fr : Prot) (G cf n : Nat) (f : FuncId) (args : Array Value) (ora : List (Nat × Ora)) : Option (Value × List Prop) :=
  match callE P st Fr G cf K n f args .leaf ⟨G, ora⟩ with
  | some ⟨v, _, _, _, p⟩ => some (v, p)
  | none => none
theorem calls_out {P : Program} {st : Bool} (hm : P.follows .mixedOrders = true) {K : FuncId → Array Value → Option Value} (hK : ∀ f a v, K f a = some v → ∀ w, Calls P f a w fun e w' => e = .returned v ∧ Below w.heap.size w w') {G cf n : Nat} {f : FuncId}
    {args : Array Value} {v : Value} {p : Prot → List Prop} {ora : List (Nat × Ora)} (h : ∀ Fr, outc P st K Fr G cf n f args ora = some (v, p Fr)) (hn : ∀ Fr, All (p Fr)) (hp : plain 6 v = true) (ha : args.toList.all (plain 6) = true) (w : World) (hf : Nat.ble BIG f = false := by rfl) :
    Calls P f args w fun e w' => e = .returned v ∧ Below w.heap.size w w' := by
  have h := h (protOf w)
  have hn := hn (protOf w)
  unfold outc at h
  cases hr : callE P st (protOf w) G cf K n f args .leaf ⟨G, ora⟩ with
  | none => simp [hr] at h
  | some r =>
    obtain ⟨v', Hh, s', lg, p'⟩ := r
    simp only [hr, Option.some.injEq, Prod.mk.injEq] at h
    obtain ⟨rfl, hp'⟩ := h
    rw [← hp'] at hn
    have hR : Rel P (protOf w) G (nmOf G) .leaf w := by
      refine ⟨fun g hg => ⟨0, by simp [nmOf, hg]⟩, fun n B hB => by simp [Tr.get] at hB, fun n m B C p q hB => by simp [Tr.get] at hB, fun b hb => ?_, fun m p h => by simp [protOf] at h⟩
      have hb : b < w.heap.size := hb
      simp [protOf, hb]
    have := (callsOk (P := P) (Fr := protOf w) (G := G) hm cf (K := K) (fun f a v hv w _ => (hK f a v hv w).mono fun e w' he => by
      obtain ⟨rfl, hb⟩ := he; exact ⟨rfl, hb⟩) n).2 (nmOf G) f args args (ar_plain ha) .leaf ⟨G, ora⟩ _ w hr hn hR (fun k hk => by have : G ≤ k := hk.1; simp [nmOf]; omega) (Nat.le_refl _)
    rw [runX_of hf] at this
    refine Calls.mono this fun e w' he => ?_
    cases e with
    | returned y =>
      obtain ⟨τ, _, _, hO, hv⟩ := he
      have := plain_eq 6 v' y hp hv
      subst this
      exact ⟨rfl, hO.os, hO.tape, hO.output, hO.size, fun k hk => hO.block k hk⟩
    | _ => exact he.elim
end Go.Proofs.YtofdiilfedjhkaaDoor.E
end

section
/- Calls whose arguments hold what is not looked into: slices, addresses, by names from ahead. -/
set_option linter.unusedVariables false
set_option linter.unusedSimpArgs false
namespace Go.Proofs.YtofdiilfedjhkaaDoor.E
open Go.RowKit
/-- All that is there is protected; some places are named. -/
def protX (w : World) (ext : Nat → Option Place) : Prot := ⟨fun b => b < w.heap.size, fun b => (w.heap[b]?).getD default, ext⟩
def nmX (G : Nat) (ext : Nat → Option Place) : Nm := fun n => if n < G then some ⟨n, 0, 0, .nilFunc⟩ else ext n
/-- The names of a list of values that are not looked into: G, G + 1, .. -/
def extL (G : Nat) (l : List Value) : Nat → Option Place := fun n => if n < G then none else (l[n - G]?).map fun v => ⟨0, 0, 0, v⟩
theorem extL_le {G : Nat} {l : List Value} {n : Nat} {p : Place} (h : extL G l n = some p) : G ≤ n ∧ n < G + l.length := by
  unfold extL at h
  split at h
  · cases h
  · cases hx : l[n - G]? with
    | none => simp [hx] at h
    | some v => have := (List.getElem?_eq_some_iff.1 hx).1; omega
theorem rel_leafX {P : Program} {G : Nat} {w : World} {ext : Nat → Option Place} (he : ∀ n p, ext n = some p → G ≤ n) : Rel P (protX w ext) G (nmX G ext) .leaf w := by
  refine ⟨fun g hg => ⟨0, by simp [nmX, hg]⟩, fun n B hB => by simp [Tr.get] at hB, fun n m B C p q hB => by simp [Tr.get] at hB, fun b hb => ?_, fun n p h => ?_⟩
  · have hb : b < w.heap.size := hb
    simp [protX, hb]
  · have h : ext n = some p := h
    have := he n p h
    simp only [nmX]
    rw [if_neg (by omega)]; exact h
end Go.Proofs.YtofdiilfedjhkaaDoor.E
end

section
/- Known calls whose arguments hold names from ahead. -/
set_option linter.unusedVariables false
set_option linter.unusedSimpArgs false
namespace Go.Proofs.YtofdiilfedjhkaaDoor.E
open Go.RowKit
/-- What a value stands for that holds names from ahead. -/
def real (ext : Nat → Option Place) : Nat → Value → Value
  | n + 1, .agg a => .agg ⟨a.toList.map (real ext n)⟩
  | _, .chan (some k) => match ext k with
    | some p => p.v
    | none => .chan (some k)
  | _, v => v
def ready (ext : Nat → Option Place) : Nat → Value → Bool
  | n + 1, .agg a => a.toList.all (ready ext n)
  | _, .chan (some k) => (ext k).isSome
  | _, .int _ _ => true
  | _, .bool _ => true
  | _, .string _ => true
  | _, _ => false
theorem real_eq {ext : Nat → Option Place} {σ : Nm} (hs : Sub ext σ) : ∀ (n : Nat) (v r : Value), ready ext n v = true → VR σ v r → r = real ext n v := by
  intro n
  induction n with
  | zero =>
    intro v r hr h
    cases h with
    | bool => rfl
    | int => rfl
    | string => rfl
    | @opq k q hq _ =>
      have hk : (ext k).isSome = true := hr
      obtain ⟨p, hp⟩ := Option.isSome_iff_exists.1 hk
      rw [hs _ _ hp] at hq
      obtain rfl := Option.some.inj hq
      simp [real, hp]
    | _ => exact absurd hr (by simp [ready])
  | succ n ih =>
    intro v r hr h
    cases h with
    | bool => rfl
    | int => rfl
    | string => rfl
    | @opq k q hq _ =>
      have hk : (ext k).isSome = true := hr
      obtain ⟨p, hp⟩ := Option.isSome_iff_exists.1 hk
      rw [hs _ _ hp] at hq
      obtain rfl := Option.some.inj hq
      simp [real, hp]
    | @agg a b hsz hf =>
      simp only [real, Value.agg.injEq]
      refine Array.ext' ?_
      refine List.ext_getElem? fun i => ?_
      rw [List.getElem?_map]
      simp only [Array.getElem?_toList]
      cases ha : a[i]? with
      | none =>
        have : b[i]? = none := by
          rw [Array.getElem?_eq_none_iff] at ha ⊢
          omega
        rw [this]; rfl
      | some x =>
        have hl : i < b.size := by
          have := (Array.getElem?_eq_some_iff.1 ha).1; omega
        have hb : b[i]? = some b[i] := Array.getElem?_eq_getElem hl
        rw [hb]
        refine congrArg some (ih x _ ?_ (hf i x _ ha hb))
        exact List.all_eq_true.1 hr x (Array.mem_toList_iff.2 (Array.mem_of_getElem? ha))
    | _ => exact absurd hr (by simp [ready])
/-- What a call answers in every world that keeps the first one's blocks, of arguments with names from ahead. -/
theorem pureX {P : Program} {f : FuncId} {args : Array Value} {v : Value} {w : World} {ext : Nat → Option Place} (h : ∀ w' : World, (∀ b, b < w.heap.size → w'.heap[b]? = w.heap[b]?) → Calls P f ⟨args.toList.map (real ext 6)⟩ w' fun e w'' => e = .returned v ∧ Below w'.heap.size w' w'') (hp : plain 6 v = true := by rfl) (ha : args.toList.all (ready ext 6) = true := by rfl) (hf : Nat.ble BIG f = false := by rfl) : PureC P (protX w ext) f args v := by
  intro σ args' hs hA w' hw
  have : args' = ⟨args.toList.map (real ext 6)⟩ := by
    refine Array.ext' (List.ext_getElem? fun i => ?_)
    rw [List.getElem?_map]
    simp only [Array.getElem?_toList]
    cases hx : args[i]? with
    | none =>
      have : args'[i]? = none := by
        rw [Array.getElem?_eq_none_iff] at hx ⊢
        have := hA.1; omega
      rw [this]; rfl
    | some x =>
      have hl : i < args'.size := by
        have := (Array.getElem?_eq_some_iff.1 hx).1
        have := hA.1; omega
      have hb : args'[i]? = some args'[i] := Array.getElem?_eq_getElem hl
      rw [hb]
      refine congrArg some (real_eq hs 6 x _ ?_ (hA.2 i x _ hx hb))
      exact List.all_eq_true.1 ha x (Array.mem_toList_iff.2 (Array.mem_of_getElem? hx))
  subst this
  rw [runX_of hf]
  refine Calls.mono (h w' fun b hb => ?_) fun e w'' he => ?_
  · have := hw b hb
    rw [this]
    simp [protX, hb]
  · obtain ⟨rfl, hb⟩ := he
    exact ⟨plain_refl 6 v hp, hb⟩
theorem vr_real {ext : Nat → Option Place} (hx : ∀ k p, ext k = some p → (match p.v with | .agg _ | .tuple _ | .bool _ => false | _ => true) = true) : ∀ (n : Nat) (v : Value), ready ext n v = true → VR ext v (real ext n v) := by
  have hopq : ∀ k, (ext k).isSome = true → VR ext (.chan (some k)) (match ext k with | some p => p.v | none => .chan (some k)) := fun k hk => by
    obtain ⟨p, hp⟩ := Option.isSome_iff_exists.1 hk
    rw [hp]
    exact .opq hp (hx k p hp)
  intro n
  induction n with
  | zero =>
    intro v hr
    cases v with
    | bool b => exact .bool b
    | int k x => exact .int k x
    | string s => exact .string s
    | chan c =>
      cases c with
      | none => exact absurd hr (by simp [ready])
      | some k => exact hopq k hr
    | _ => exact absurd hr (by simp [ready])
  | succ n ih =>
    intro v hr
    cases v with
    | bool b => exact .bool b
    | int k x => exact .int k x
    | string s => exact .string s
    | chan c =>
      cases c with
      | none => exact absurd hr (by simp [ready])
      | some k => exact hopq k hr
    | agg a =>
      refine .agg (by simp) fun i v r hv hrr => ?_
      have hv' : a.toList[i]? = some v := by rw [Array.getElem?_toList]; exact hv
      have h1 : (a.toList.map (real ext n))[i]? = some r := by rw [← hrr]; simp
      rw [List.getElem?_map, hv'] at h1
      obtain rfl := Option.some.inj h1
      exact ih v (List.all_eq_true.1 hr v (Array.mem_toList_iff.2 (Array.mem_of_getElem? hv)))
    | _ => exact absurd hr (by simp [ready])
end Go.Proofs.YtofdiilfedjhkaaDoor.E
end

section
/- A stretch of code by the machine: from what is known of some temporaries to what is known behind it; for loops. -/
set_option linter.unusedVariables false
set_option linter.unusedSimpArgs false
namespace Go.Proofs.YtofdiilfedjhkaaDoor.E
open Go.RowKit
/-- The temporaries of which something is known. -/
def maskL (N : Nat) (live : List (Nat × Value)) : List Value := live.foldl (fun l q => l.set q.1 q.2) (List.replicate N junk)
theorem maskL_len (N : Nat) (live : List (Nat × Value)) : (maskL N live).length = N := by
  unfold maskL
  suffices h : ∀ (l : List (Nat × Value)) (b : List Value), (l.foldl (fun l q => l.set q.1 q.2) b).length = b.length by rw [h]; simp
  intro l
  induction l with
  | nil => intro b; rfl
  | cons q l ih => intro b; rw [List.foldl_cons, ih]; simp
theorem maskL_get (N : Nat) (live : List (Nat × Value)) (i : Nat) (v : Value) (h : (maskL N live)[i]? = some v) (hj : notJ v = true) : (i, v) ∈ live := by
  unfold maskL at h
  suffices hh : ∀ (l : List (Nat × Value)) (b : List Value), (l.foldl (fun l q => l.set q.1 q.2) b)[i]? = some v → (i, v) ∈ l ∨ b[i]? = some v by
    rcases hh _ _ h with h | h
    · exact h
    · have := List.mem_of_getElem? h
      rw [List.mem_replicate] at this
      rw [this.2] at hj
      exact absurd hj (by simp [notJ, junk])
  intro l
  induction l with
  | nil => intro b h; exact .inr h
  | cons q l ih =>
    intro b h
    rw [List.foldl_cons] at h
    rcases ih _ h with h | h
    · exact .inl (List.mem_cons_of_mem _ h)
    · rw [List.getElem?_set] at h
      split at h
      · rename_i e
        split at h
        · simp only [Option.some.injEq] at h
          refine .inl ?_
          rw [← e, ← h]
          exact List.mem_cons_self
        · cases h
      · exact .inr h
theorem ready_notJ {ext : Nat → Option Place} {v : Value} {n : Nat} (h0 : ext 0 = none) (h : ready ext n v = true) : notJ v = true := by
  cases v with
  | chan c =>
    cases c with
    | none => rfl
    | some k =>
      have hk : (ext k).isSome = true := by cases n <;> exact h
      cases k with
      | zero => rw [h0] at hk; cases hk
      | succ k => rfl
  | _ => rfl
theorem zip_map {f : Nat → Value} {g : Value → Value} : ∀ {out : List Nat} {k : Nat} {v : Value}, (k, v) ∈ out.zip ((out.map f).map g) → k ∈ out ∧ v = g (f k)
  | [], _, _, h => by simp at h
  | a :: l, k, v, h => by
    simp only [List.map_cons, List.zip_cons_cons, List.mem_cons, Prod.mk.injEq] at h
    rcases h with ⟨rfl, rfl⟩ | h
    · exact ⟨List.mem_cons_self, rfl⟩
    · obtain ⟨h1, h2⟩ := zip_map h
      exact ⟨List.mem_cons_of_mem _ h1, h2⟩

/-! ### a stretch: all that a path has ahead of it -/
def midC : List Bool → Code → Code
  | true :: l, .seq _ y => midC l y
  | false :: l, .seq x _ => midC l x
  | _, c => c
/-- A part of a code: left (false) or right (true); blocks and loops are stepped into. -/
def subC : List Bool → Code → Code
  | [], c => c
  | b :: l, .seq x y => subC l (cond b y x)
  | _ :: l, .block _ c => subC l c
  | _ :: l, .loop c => subC l c
  | b :: l, .cond _ x y => subC l (cond b y x)
  | _, c => c
def wpMid (P : Program) : List Bool → Code → (Act → World → Prop) → (Exit → Act → World → Prop) → Act → World → Prop
  | true :: l, .seq x y, K, Q => x.wp P (Exit.then (fun a w => wpMid P l y K Q a w) Q)
  | false :: l, .seq x _, K, Q => wpMid P l x K Q
  | _, _, K, _ => K
def wpPost (P : Program) : List Bool → Code → (Exit → Act → World → Prop) → Act → World → Prop
  | true :: l, .seq _ y, Q => wpPost P l y Q
  | false :: l, .seq x y, Q => wpPost P l x (Exit.then (fun a w => y.wp P Q a w) Q)
  | _, _, Q => Q .normal
theorem then_then (A B : Act → World → Prop) (Q : Exit → Act → World → Prop) : Exit.then A (Exit.then B Q) = Exit.then A Q := by
  funext e a w
  cases e <;> rfl
theorem then_self (Q : Exit → Act → World → Prop) : Exit.then (Q .normal) Q = Q := by
  funext e a w
  cases e <;> rfl
theorem wpMid_then (P : Program) : ∀ (l : List Bool) (c : Code) (K B : Act → World → Prop) (Q : Exit → Act → World → Prop), wpMid P l c K (Exit.then B Q) = wpMid P l c K Q := by
  intro l
  induction l with
  | nil => intro c K B Q; unfold wpMid; cases c <;> rfl
  | cons b l ih =>
    intro c K B Q
    cases c with
    | seq x y =>
      cases b with
      | false => simp only [wpMid]; exact ih _ _ _ _
      | true => simp only [wpMid]; rw [then_then]; simp only [ih]
    | _ => cases b <;> rfl
theorem wp_mid {P : Program} : ∀ (l : List Bool) (c : Code) (Q : Exit → Act → World → Prop) (a : Act) (w : World), wpMid P l c (fun a w => (midC l c).wp P (Exit.then (wpPost P l c Q) Q) a w) Q a w → c.wp P Q a w := by
  intro l
  induction l with
  | nil =>
    intro c Q a w h
    have e : c.wp P (Exit.then (Q .normal) Q) a w := by cases c <;> exact h
    rw [then_self] at e
    exact e
  | cons b l ih =>
    intro c Q a w h
    cases c with
    | seq x y =>
      cases b with
      | true =>
        simp only [wpMid, midC, wpPost] at h
        refine wp_seq (Code.wp_mono (fun e a w q => ?_) h)
        cases e with
        | normal => exact ih y Q a w q
        | _ => exact q
      | false =>
        simp only [wpMid, midC, wpPost] at h
        refine wp_seq (ih x _ a w ?_)
        rw [wpMid_then]
        simp only [then_then]
        exact h
    | _ =>
      rw [← then_self Q]
      cases b <;> exact h
section
variable (P : Program) (st : Bool) (G : Nat) (callF : FuncId → Array Value → Ev Value) (cf : Nat)
def midE : List Bool → Code → List Value → Ev (Ex × List Value)
  | true :: l, .seq x y, t => (codeE P st G callF cf x t).bind fun q => match q.1 with
    | .normal => midE l y q.2
    | e => .pure (e, q.2)
  | false :: l, .seq x _, t => midE l x t
  | _, _, t => .pure (.normal, t)
end
section
variable {P : Program} {st : Bool} {Fr : Prot} {G : Nat} {callF : FuncId → Array Value → Ev Value} {cf : Nat}
theorem framed_midE (hc : ∀ f a, Framed (callF f a)) : ∀ (l : List Bool) (c : Code) (t : List Value), Framed (midE P st G callF cf l c t) := by
  intro l
  induction l with
  | nil => intro c t; cases c <;> exact framed_pure _
  | cons b l ih =>
    intro c t
    cases c with
    | seq x y =>
      cases b with
      | false => simp only [midE]; exact ih _ _
      | true =>
        simp only [midE]
        refine framed_bind (framed_codeE hc _ _ _) fun q => ?_
        split
        · exact ih _ _
        · exact framed_pure _
    | _ => cases b <;> exact framed_pure _
def midRun (P : Program) (l : List Bool) (c : Code) (a : Act) (w : World) (K : Exit × Act → World → Prop) : Prop := ∀ (M : Act → World → Prop) (Q : Exit → Act → World → Prop), (∀ a' w', K (.normal, a') w' → M a' w') → (∀ x a' w', x ≠ .normal → K (x, a') w' → Q x a' w') → wpMid P l c M Q a w
theorem sim_midE (hm : P.follows .mixedOrders = true) (hc : CallsOk P Fr G callF) : ∀ (l : List Bool) (c : Code) (σ : Nm) (t : List Value) (a : Act), TR σ t a → Sim P Fr G σ (midE P st G callF cf l c t) CA (midRun P l c a) := by
  intro l
  induction l with
  | nil =>
    intro c σ t a h H s r w hr hn hR hf hG M Q hM hQ
    have hr : Ev.pure (Ex.normal, t) H s = some r := by cases c <;> exact hr
    simp only [Ev.pure, Option.some.injEq] at hr
    subst hr
    have : wpMid P [] c M Q a w = M a w := by cases c <;> rfl
    rw [this]
    exact hM a w ⟨σ, .refl .., hR, .refl .., rfl, h⟩
  | cons b l ih =>
    intro c σ t a h
    have done : (∀ t, midE P st G callF cf (b :: l) c t = .pure (.normal, t)) → (∀ M Q, wpMid P (b :: l) c M Q = M) → Sim P Fr G σ (midE P st G callF cf (b :: l) c t) CA (midRun P (b :: l) c a) := by
      intro e1 e2 H s r w hr hn hR hf hG M Q hM hQ
      rw [e1] at hr
      simp only [Ev.pure, Option.some.injEq] at hr
      subst hr
      rw [e2]
      exact hM a w ⟨σ, .refl .., hR, .refl .., rfl, h⟩
    cases c with
    | seq x y =>
      cases b with
      | false =>
        intro H s r w hr hn hR hf hG M Q hM hQ
        simp only [midE] at hr
        simp only [wpMid]
        exact ih x σ t a h H s r w hr hn hR hf hG M Q hM hQ
      | true =>
        intro H s r w hr hn hR hf hG M Q hM hQ
        simp only [midE] at hr
        simp only [wpMid]
        obtain ⟨r₁, r₂, h₁, h₂, rfl⟩ := bind_eq hr
        have hm₁ := (framed_codeE (P := P) (st := st) (G := G) hc.1 cf x t).mono _ _ _ h₁
        have hm₂ : r₁.sup.name ≤ r₂.sup.name := by
          cases hv : r₁.val.1 with
          | normal => rw [hv] at h₂; exact (framed_midE hc.1 _ _ _).mono _ _ _ h₂
          | exit id => rw [hv] at h₂; exact (framed_pure _).mono _ _ _ h₂
          | ret => rw [hv] at h₂; exact (framed_pure _).mono _ _ _ h₂
        have hsim := (sim_codeE (P := P) (st := st) (Fr := Fr) (G := G) hm hc cf).1 x σ t a h H s r₁ w h₁ (all_app hn).1 hR (fun k hk => hf k ⟨hk.1, Nat.lt_of_lt_of_le hk.2 hm₂⟩) hG
        refine hsim _ fun e a' w' hk => ?_
        obtain ⟨τ, b1, b2, b3, b4, b5⟩ := hk
        simp only at b4 b5
        have stop : ∀ z : Ex, z ≠ .normal → r₁.val.1 = z → Exit.then (fun a w => wpMid P l y M Q a w) Q e a' w' := by
          intro z hz hv
          rw [hv] at b4 h₂
          have h₂ : Ev.pure (z, r₁.val.2) r₁.hp r₁.sup = some r₂ := by
            cases z with
            | normal => exact absurd rfl hz
            | _ => exact h₂
          simp only [Ev.pure, Option.some.injEq] at h₂
          subst h₂ b4
          have hq : Q z.to a' w' := hQ _ _ _ (by cases z <;> first | exact absurd rfl hz | (intro h; cases h)) ⟨τ, b1, b2, b3, rfl, b5⟩
          cases z with
          | normal => exact absurd rfl hz
          | _ => exact hq
        cases hv : r₁.val.1 with
        | exit id => exact stop _ (by intro h; cases h) hv
        | ret => exact stop _ (by intro h; cases h) hv
        | normal =>
          rw [hv] at h₂ b4
          simp only [Ex.to] at b4
          subst b4
          refine ih y τ r₁.val.2 a' b5 r₁.hp r₁.sup r₂ w' h₂ (all_app hn).2 b2 (fun k hk => b1.none (hf k ⟨Nat.le_trans hm₁ hk.1, hk.2⟩) (fun q => by have h1 := q.2; have h2 := hk.1; omega)) (Nat.le_trans hG hm₁) M Q (fun a'' w'' hk => ?_) (fun z a'' w'' hz hk => ?_)
          · obtain ⟨υ, c1, c2, c3, c4⟩ := hk
            exact hM _ _ ⟨υ, b1.trans c1 hm₁ hm₂, c2, b3.trans c3, c4⟩
          · obtain ⟨υ, c1, c2, c3, c4⟩ := hk
            exact hQ _ _ _ hz ⟨υ, b1.trans c1 hm₁ hm₂, c2, b3.trans c3, c4⟩
    | _ => exact done (fun t => by cases b <;> rfl) (fun M Q => by cases b <;> rfl)
end

/-! ### what is known between two stretches -/
/-- What is known of a frame and of the blocks by names, and what stays of the first world. -/
structure AtM (P : Program) (G X N : Nat) (ext : Nat → Option Place) (live : List (Nat × Value)) (H : Tr) (w0 : World) (a : Act) (w : World) : Prop where
  ex : ∃ σ : Nm, TR σ (maskL N live) a ∧ Rel P (protX w0 ext) G σ H w ∧ ∀ k, G + X ≤ k → σ k = none
  low : Below w0.heap.size w0 w
def heapL (l : List (Nat × Nat × Blk)) : Tr := l.foldl (fun t q => Tr.put (q.2.1 + 1) t q.2.1 (some q.2.2)) .leaf
theorem heapL_get (l : List (Nat × Nat × Blk)) (k : Nat) (B : Blk) (h : (heapL l).get k = some B) : ∃ q ∈ l, q.2.1 = k ∧ q.2.2 = B := by
  unfold heapL at h
  suffices hh : ∀ (l : List (Nat × Nat × Blk)) (t : Tr), (l.foldl (fun t q => Tr.put (q.2.1 + 1) t q.2.1 (some q.2.2)) t).get k = some B → (∃ q ∈ l, q.2.1 = k ∧ q.2.2 = B) ∨ t.get k = some B by
    rcases hh _ _ h with h | h
    · exact h
    · simp [Tr.get] at h
  intro l
  induction l with
  | nil => intro t h; exact .inr h
  | cons q l ih =>
    intro t h
    rw [List.foldl_cons] at h
    rcases ih _ h with ⟨p, hp, e⟩ | h
    · exact .inl ⟨p, List.mem_cons_of_mem _ hp, e⟩
    · rw [Tr.get_put _ _ _ _ _ (Nat.lt_succ_self _)] at h
      split at h
      · rename_i e
        exact .inl ⟨q, List.mem_cons_self, e.symm, Option.some.inj h⟩
      · exact .inr h
def oldOf (tri : List (Nat × Nat × Blk)) (n : Nat) : Option Nat := (tri.find? fun q => Nat.beq q.2.1 n).map (·.1)
def newOf (tri : List (Nat × Nat × Blk)) (o : Nat) : Option Nat := (tri.find? fun q => Nat.beq q.1 o).map (·.2.1)
def rnV (tri : List (Nat × Nat × Blk)) (v : Value) : Value := match v with
  | .pointer (some ⟨o, off, none⟩) => match newOf tri o with
    | some n => .pointer (some ⟨n, off, none⟩)
    | none => junk
  | v => v
theorem newOf_mem {tri : List (Nat × Nat × Blk)} {o n : Nat} (h : newOf tri o = some n) : ∃ B, (o, n, B) ∈ tri := by
  unfold newOf at h
  rw [Option.map_eq_some_iff] at h
  obtain ⟨q, hq, rfl⟩ := h
  have h1 := List.find?_some hq
  have h2 := List.mem_of_find?_eq_some hq
  have := Nat.eq_of_beq_eq_true h1
  subst this
  exact ⟨q.2.2, h2⟩
theorem oldOf_of {tri : List (Nat × Nat × Blk)} (hnd : (tri.map (·.2.1)).Nodup) {q : Nat × Nat × Blk} (hq : q ∈ tri) : oldOf tri q.2.1 = some q.1 := by
  induction tri with
  | nil => cases hq
  | cons p l ih =>
    rw [List.map_cons, List.nodup_cons] at hnd
    unfold oldOf
    rw [List.find?_cons]
    rcases List.mem_cons.1 hq with rfl | hq
    · simp
    · have hne : Nat.beq p.2.1 q.2.1 = false := by
        cases hh : Nat.beq p.2.1 q.2.1 with
        | false => rfl
        | true =>
          have := Nat.eq_of_beq_eq_true hh
          exact absurd (List.mem_map.2 ⟨q, hq, this.symm⟩) hnd.1
      rw [hne]
      exact ih hnd.2 hq
theorem oldOf_none {tri : List (Nat × Nat × Blk)} {n : Nat} (h : ∀ q ∈ tri, q.2.1 ≠ n) : oldOf tri n = none := by
  unfold oldOf
  rw [Option.map_eq_none_iff, List.find?_eq_none]
  intro q hq hh
  exact h q hq (Nat.eq_of_beq_eq_true hh)
def isPtr : Value → Bool
  | .pointer (some ⟨_, _, none⟩) => true
  | _ => false
/-- What a stretch answers: how it ends, what the temporaries hold, what the blocks hold; and what it needs. -/
def outM (P : Program) (st : Bool) (K : FuncId → Array Value → Option Value) (Fr : Prot) (G X cf n : Nat) (N : Nat) (l : List Bool) (c : Code) (t : List Value) (H : Tr) (ora : List (Nat × Ora)) (out mem : List Nat) : Option (Ex × List Value × List (Option Blk) × List Prop) :=
  match midE P st G (callE P st Fr G cf K n) cf l c t H ⟨G + X, ora⟩ with
  | some ⟨(x, t'), H', _, _, p⟩ => match Nat.beq t'.length N with
    | true => some (x, out.map (fun i => getT t' i), mem.map (fun n => H'.get n), p)
    | false => none
  | none => none
/-- What stands behind an end. -/
def endM (M : Act → World → Prop) (Q : Exit → Act → World → Prop) : Ex → Act → World → Prop
  | .normal => M
  | .exit id => Q (.exit id)
  | .ret => Q .ret
theorem wp_segM {P : Program} {st : Bool} (hm : P.follows .mixedOrders = true) {K : FuncId → Array Value → Option Value} (hK : ∀ f a v, K f a = some v → ∀ w, Calls P f a w fun e w' => e = .returned v ∧ Below w.heap.size w w') {G X cf n N : Nat} {l : List Bool} {c : Code}
    {live : List (Nat × Value)} {H : Tr} {out : List Nat} {vs : List Value} {tri : List (Nat × Nat × Blk)} {x : Ex} {p : Prot → List Prop} {ora : List (Nat × Ora)} {w0 w : World} {a : Act} {ext : Nat → Option Place}
    (h : ∀ Fr, outM P st K Fr G X cf n N l c (maskL N live) H ora out (tri.map (·.1)) = some (x, vs, tri.map (fun q => some q.2.2), p Fr)) (hn : ∀ Fr, Fr = protX w0 ext → All (p Fr))
    (he : ∀ n p, ext n = some p → G ≤ n ∧ n < G + X) (hx : ∀ k p, ext k = some p → (match p.v with | .agg _ | .tuple _ | .bool _ => false | _ => true) = true) (hv : vs.all (fun v => ready ext 6 v || isPtr v) = true)
    (hb : tri.all (fun q => q.2.2.cells.all (ready ext 6)) = true) (h1 : (tri.map (·.1)).Nodup) (h2 : (tri.map (·.2.1)).Nodup) (h3 : ∀ q ∈ tri, G ≤ q.2.1 ∧ q.2.1 < G + X ∧ ext q.2.1 = none) (hG : 0 < G)
    (hA : AtM P G X N ext live H w0 a w) {M : Act → World → Prop} {Q : Exit → Act → World → Prop} (hQ : ∀ a' w', AtM P G X N ext (out.zip (vs.map (rnV tri))) (heapL tri) w0 a' w' → endM M Q x a' w') : wpMid P l c M Q a w := by
  have h0 : ext 0 = none := by
    cases hh : ext 0 with
    | none => rfl
    | some q => have := he 0 q hh; omega
  have h := h (protX w0 ext)
  have hn := hn _ rfl
  unfold outM at h
  cases hr : midE P st G (callE P st (protX w0 ext) G cf K n) cf l c (maskL N live) H ⟨G + X, ora⟩ with
  | none => simp [hr] at h
  | some r =>
    obtain ⟨⟨x', t'⟩, Hh, s', lg, p'⟩ := r
    simp only [hr] at h
    cases hlen : Nat.beq t'.length N with
    | false => simp [hlen] at h
    | true =>
    have hlen := Nat.eq_of_beq_eq_true hlen
    simp only [hlen, Nat.beq_refl, Option.some.injEq, Prod.mk.injEq] at h
    obtain ⟨rfl, rfl, hmem, hp'⟩ := h
    rw [← hp'] at hn
    obtain ⟨⟨σ, hT, hR, hfr⟩, hlow⟩ := hA
    have hok := callsOk (P := P) (st := st) (Fr := protX w0 ext) (G := G) hm cf (K := K) (fun f a v hv w _ => (hK f a v hv w).mono fun e w' he => by
      obtain ⟨rfl, hb⟩ := he; exact ⟨rfl, hb⟩) n
    have hmono := (framed_midE (P := P) (st := st) (G := G) (cf := cf) hok.1 l c (maskL N live)).mono _ _ _ hr
    have hsim := sim_midE (P := P) (st := st) (Fr := protX w0 ext) (G := G) (cf := cf) hm hok l c σ (maskL N live) a hT H ⟨G + X, ora⟩ _ w hr hn hR (fun k hk => hfr k hk.1) (Nat.le_add_right _ _)
    -- behind the stretch, by other names
    have key : ∀ a' w', (∃ τ, Aft σ τ (G + X) s'.name ∧ Rel P (protX w0 ext) G τ Hh w' ∧ Out (protX w0 ext) w w' ∧ TR τ t' a') → AtM P G X N ext (out.zip ((out.map fun i => getT t' i).map (rnV tri))) (heapL tri) w0 a' w' := by
      intro a' w' hk
      obtain ⟨τ, ha, hR', hO, hT'⟩ := hk
      obtain ⟨ρ, hρ⟩ : ∃ ρ : Nm, ρ = fun n => if n < G then τ n else match oldOf tri n with
        | some o => τ o
        | none => ext n := ⟨_, rfl⟩
      have hρg : ∀ g, g < G → ρ g = τ g := fun g hg => by rw [hρ]; simp only [if_pos hg]
      have hρn : ∀ q ∈ tri, ρ q.2.1 = τ q.1 := fun q hq => by
        have := (h3 q hq).1
        rw [hρ]
        simp only [oldOf_of h2 hq]
        rw [if_neg (by omega)]
      have hρe : Sub ext ρ := fun n p hp => by
        have hge := he n p hp
        rw [hρ]
        simp only
        rw [if_neg (by omega), oldOf_none fun q hq e => by
          have := (h3 q hq).2.2
          rw [e, hp] at this; cases this]
        exact hp
      have hre : ∀ v r, ready ext 6 v = true → VR τ v r → VR ρ v r := fun v r hv hr => by
        rw [real_eq (fun n p h => hR'.ext n p h) 6 v r hv hr]
        exact (vr_real hx 6 v hv).sub hρe
      have hget : ∀ q ∈ tri, Hh.get q.1 = some q.2.2 := fun q hq => by
        have : ∀ (l : List (Nat × Nat × Blk)), (l.map (·.1)).map (fun n => Hh.get n) = l.map (fun q => some q.2.2) → ∀ q ∈ l, Hh.get q.1 = some q.2.2 := by
          intro l
          induction l with
          | nil => intro _ q hq; cases hq
          | cons z l ih =>
            intro h q hq
            simp only [List.map_cons, List.cons.injEq] at h
            rcases List.mem_cons.1 hq with rfl | hq
            · exact h.1
            · exact ih h.2 q hq
        exact this tri hmem q hq
      have hR2 : Rel P (protX w0 ext) G ρ (heapL tri) w' := by
        refine ⟨fun g hg => by rw [hρg g hg]; exact hR'.glob g hg, fun n B hB => ?_, fun n m B C pn pm hB hC hne hpn hpm hbb => ?_, hR'.prot, fun n p h => hρe n p h⟩
        · obtain ⟨q, hq, rfl, rfl⟩ := heapL_get _ _ _ hB
          obtain ⟨p, c', fz, b1, b2, b3, b4, b5, b6, b7⟩ := hR'.blk q.1 q.2.2 (hget q hq)
          refine ⟨p, c', fz, by rw [hρn q hq]; exact b1, b2, b3, b4, b5, fun o v hv => ?_, b7⟩
          obtain ⟨r, hr1, hr2⟩ := b6 o v hv
          exact ⟨r, hr1, hre v r (List.all_eq_true.1 (List.all_eq_true.1 hb q hq) v (List.mem_of_getElem? hv)) hr2⟩
        · obtain ⟨q, hq, rfl, rfl⟩ := heapL_get _ _ _ hB
          obtain ⟨q', hq', rfl, rfl⟩ := heapL_get _ _ _ hC
          rw [hρn q hq] at hpn
          rw [hρn q' hq'] at hpm
          refine hR'.apart q.1 q'.1 _ _ pn pm (hget q hq) (hget q' hq') (fun e => hne ?_) hpn hpm hbb
          have : ∀ (l : List (Nat × Nat × Blk)), (l.map (·.1)).Nodup → q ∈ l → q' ∈ l → q = q' := by
            intro l
            induction l with
            | nil => intro _ h; cases h
            | cons z l ih =>
              intro hnd hz hz'
              rw [List.map_cons, List.nodup_cons] at hnd
              rcases List.mem_cons.1 hz with h1 | h1 <;> rcases List.mem_cons.1 hz' with h2 | h2
              · rw [h1, h2]
              · exact absurd (List.mem_map.2 ⟨q', h2, by rw [← h1]; exact e.symm⟩) hnd.1
              · exact absurd (List.mem_map.2 ⟨q, h1, by rw [← h2]; exact e⟩) hnd.1
              · exact ih hnd.2 h1 h2
          rw [this tri h1 hq hq']
      refine ⟨⟨ρ, ⟨⟨?_, fun i v r hi hr hj => ?_⟩, hT'.2⟩, hR2, fun k hk => ?_⟩, ?_⟩
      · rw [maskL_len, ← hlen]; exact hT'.1.1
      · obtain ⟨hmi, rfl⟩ := zip_map (maskL_get N _ i v hi hj)
        have hi' : t'[i]? = some (getT t' i) := by
          have hlt : i < t'.length := by
            have := (List.getElem?_eq_some_iff.1 hr).1
            rw [← hT'.1.1] at this; exact this
          rw [getT_eq, List.getD_eq_getElem?_getD, List.getElem?_eq_getElem hlt]; rfl
        have hvi := List.all_eq_true.1 hv (getT t' i) (List.mem_map.2 ⟨i, hmi, rfl⟩)
        rw [Bool.or_eq_true] at hvi
        rcases hvi with hrd | hpt
        · have hnr : rnV tri (getT t' i) = getT t' i := by
            unfold rnV
            split
            · rename_i o off heq; rw [heq] at hrd; exact absurd hrd (by simp [ready])
            · rfl
          rw [hnr]
          exact hre _ _ hrd (hT'.1.2 i _ r hi' hr (ready_notJ h0 hrd))
        · generalize getT t' i = z at hi' hpt hj
          unfold isPtr at hpt
          split at hpt
          · rename_i o off
            have hVR := hT'.1.2 i _ r hi' hr rfl
            unfold rnV at hj ⊢
            simp only at hj ⊢
            cases hnew : newOf tri o with
            | none => rw [hnew] at hj; exact absurd hj (by simp [notJ, junk])
            | some nn =>
              simp only
              obtain ⟨B, hB⟩ := newOf_mem hnew
              cases hVR with
              | ptr hp => exact .ptr (by rw [hρn _ hB]; exact hp)
          · cases hpt
      · rw [hρ]
        simp only
        rw [if_neg (by omega), oldOf_none fun q hq e => by have := (h3 q hq).2.1; omega]
        cases hh : ext k with
        | none => rfl
        | some q => have := he k q hh; omega
      · refine hlow.trans ⟨hO.os, hO.tape, hO.output, hO.size, fun k hk => hO.block k hk⟩
    refine hsim M Q (fun a' w' hk => ?_) (fun z a' w' hz hk => ?_)
    · obtain ⟨τ, ha, hR', hO, hc1, hc2⟩ := hk
      simp only at hc1 hc2
      have hxe : x' = .normal := by cases x' <;> first | rfl | (simp only [Ex.to] at hc1; cases hc1)
      subst hxe
      exact hQ a' w' (key a' w' ⟨τ, ha, hR', hO, hc2⟩)
    · obtain ⟨τ, ha, hR', hO, hc1, hc2⟩ := hk
      simp only at hc1 hc2
      have := hQ a' w' (key a' w' ⟨τ, ha, hR', hO, hc2⟩)
      subst hc1
      cases x' with
      | normal => exact absurd rfl hz
      | _ => exact this
def nodB : List Nat → Bool
  | [] => true
  | a :: l => l.all (fun b => !Nat.beq a b) && nodB l
theorem nodB_nodup : ∀ (l : List Nat), nodB l = true → l.Nodup
  | [], _ => List.nodup_nil
  | a :: l, h => by
    simp only [nodB, Bool.and_eq_true, List.all_eq_true] at h
    refine List.nodup_cons.2 ⟨fun hm => ?_, nodB_nodup l h.2⟩
    have := h.1 a hm
    simp at this
def chkM (ext : Nat → Option Place) (G X : Nat) (vs : List Value) (tri : List (Nat × Nat × Blk)) : Bool :=
  vs.all (fun v => ready ext 6 v || isPtr v) && tri.all (fun q => q.2.2.cells.all (ready ext 6)) && nodB (tri.map (·.1)) && nodB (tri.map (·.2.1)) && tri.all (fun q => Nat.ble G q.2.1 && Nat.blt q.2.1 (G + X) && (ext q.2.1).isNone) && Nat.blt 0 G
theorem AtM.cast {P : Program} {G X N : Nat} {ext : Nat → Option Place} {live live' : List (Nat × Value)} {H H' : Tr} {w0 w : World} {a : Act} (h : AtM P G X N ext live H w0 a w) (h1 : live = live') (h2 : H = H') : AtM P G X N ext live' H' w0 a w := by
  subst h1 h2; exact h
/-- The same; what is checked is checked at once. -/
theorem wp_segB {P : Program} {st : Bool} (hm : P.follows .mixedOrders = true) {K : FuncId → Array Value → Option Value} (hK : ∀ f a v, K f a = some v → ∀ w, Calls P f a w fun e w' => e = .returned v ∧ Below w.heap.size w w') {G X cf n N : Nat} {l : List Bool} {c : Code}
    {live : List (Nat × Value)} {H : Tr} {out : List Nat} {vs : List Value} {tri : List (Nat × Nat × Blk)} {x : Ex} {p : Prot → List Prop} {ora : List (Nat × Ora)} {w0 w : World} {a : Act} {ext : Nat → Option Place}
    (h : ∀ Fr, outM P st K Fr G X cf n N l c (maskL N live) H ora out (tri.map (·.1)) = some (x, vs, tri.map (fun q => some q.2.2), p Fr)) (hn : ∀ Fr, Fr = protX w0 ext → All (p Fr)) (hc : chkM ext G X vs tri = true)
    (he : ∀ n p, ext n = some p → G ≤ n ∧ n < G + X) (hx : ∀ k p, ext k = some p → (match p.v with | .agg _ | .tuple _ | .bool _ => false | _ => true) = true)
    (hA : AtM P G X N ext live H w0 a w) {M : Act → World → Prop} {Q : Exit → Act → World → Prop} (hQ : ∀ a' w', AtM P G X N ext (out.zip (vs.map (rnV tri))) (heapL tri) w0 a' w' → endM M Q x a' w') : wpMid P l c M Q a w := by
  unfold chkM at hc
  simp only [Bool.and_eq_true] at hc
  obtain ⟨⟨⟨⟨⟨c1, c2⟩, c3⟩, c4⟩, c5⟩, c6⟩ := hc
  refine wp_segM hm hK h hn he hx c1 c2 (nodB_nodup _ c3) (nodB_nodup _ c4) (fun q hq => ?_) (Nat.blt_eq.mp c6) hA hQ
  have := List.all_eq_true.1 c5 q hq
  simp only [Bool.and_eq_true, Nat.ble_eq, Nat.blt_eq, Option.isNone_iff_eq_none] at this
  exact ⟨this.1.1, this.1.2, this.2⟩
/-- At a function's beginning. -/
theorem AtM.start {P : Program} {G X N : Nat} {ext : Nat → Option Place} {live : List (Nat × Value)} {a : Act} {w : World} (he : ∀ n p, ext n = some p → G ≤ n ∧ n < G + X) (hx : ∀ k p, ext k = some p → (match p.v with | .agg _ | .tuple _ | .bool _ => false | _ => true) = true)
    (hl : (live.map (·.2)).all (ready ext 6) = true) (hs : a.tmps.size = N) (hd : a.defers = []) (hv : ∀ q ∈ live, a.tmps.getD q.1 undef = real ext 6 q.2) : AtM P G X N ext live .leaf w a w := by
  have hs' : Sub ext (nmX G ext) := fun n p h => by have := he n p h; simp only [nmX]; rw [if_neg (by omega)]; exact h
  refine ⟨⟨nmX G ext, ⟨⟨by rw [maskL_len]; simp [hs], fun i v r hi hr hj => ?_⟩, hd⟩, rel_leafX fun n p h => (he n p h).1, fun k hk => ?_⟩, Below.refl _ _⟩
  · have hm := maskL_get N live i v hi hj
    have hready : ready ext 6 v = true := List.all_eq_true.1 hl v (List.mem_map.2 ⟨_, hm, rfl⟩)
    have hval := hv (i, v) hm
    rw [Array.getElem?_toList] at hr
    simp only [Array.getD_eq_getD_getElem?, hr, Option.getD_some] at hval
    rw [hval]
    exact (vr_real hx 6 v hready).sub hs'
  · simp only [nmX]
    rw [if_neg (by omega)]
    cases hh : ext k with
    | none => rfl
    | some q => have := he k q hh; omega
/-- Other names from ahead: what is live holds none, or those that stay. -/
theorem AtM.ext' {P : Program} {G X N : Nat} {ext ext' : Nat → Option Place} {live live' : List (Nat × Value)} {tri : List (Nat × Nat × Blk)} {w0 w : World} {a : Act} (h : AtM P G X N ext live (heapL tri) w0 a w) (he : ∀ n p, ext n = some p → G ≤ n ∧ n < G + X) (he' : ∀ n p, ext' n = some p → G ≤ n ∧ n < G + X)
    (hx : ∀ k p, ext k = some p → (match p.v with | .agg _ | .tuple _ | .bool _ => false | _ => true) = true) (hx' : ∀ k p, ext' k = some p → (match p.v with | .agg _ | .tuple _ | .bool _ => false | _ => true) = true)
    (hb : tri.all (fun q => q.2.2.cells.all (plain 6)) = true) (h3 : ∀ q ∈ tri, G ≤ q.2.1 ∧ q.2.1 < G + X ∧ ext' q.2.1 = none)
    (hl : ∀ (i : Nat) (v : Value), (maskL N live')[i]? = some v → notJ v = true → (maskL N live)[i]? = some v ∧ (plain 6 v = true ∨ isPtr v = true ∨ ∃ k p, v = .chan (some k) ∧ ext k = some p ∧ ext' k = some p)) (hp : ∀ (i : Nat) (v : Value), (maskL N live)[i]? = some v → isPtr v = true → ∃ q ∈ tri, ∃ off, v = .pointer (some ⟨q.2.1, off, none⟩)) (h0 : 0 < G) : AtM P G X N ext' live' (heapL tri) w0 a w := by
  obtain ⟨⟨σ, hT, hR, hf⟩, hlow⟩ := h
  obtain ⟨ρ, hρ⟩ : ∃ ρ : Nm, ρ = fun n => if n < G then σ n else match oldOf tri n with
    | some _ => σ n
    | none => ext' n := ⟨_, rfl⟩
  have hold : ∀ q ∈ tri, ∃ o, oldOf tri q.2.1 = some o := fun q hq => by
    cases hh : oldOf tri q.2.1 with
    | some o => exact ⟨o, rfl⟩
    | none =>
      unfold oldOf at hh
      rw [Option.map_eq_none_iff, List.find?_eq_none] at hh
      exact absurd (Nat.beq_refl _) (hh q hq)
  have hρn : ∀ q ∈ tri, ρ q.2.1 = σ q.2.1 := fun q hq => by
    obtain ⟨o, ho⟩ := hold q hq
    rw [hρ]; simp only [ho, ite_self]
  have hρe : Sub ext' ρ := fun n p hp => by
    have hge := he' n p hp
    rw [hρ]
    simp only
    rw [if_neg (by omega), oldOf_none fun q hq e => by
      have := (h3 q hq).2.2
      rw [e, hp] at this; cases this]
    exact hp
  refine ⟨⟨ρ, ⟨⟨?_, fun i v r hi hr hj => ?_⟩, hT.2⟩, ⟨fun g hg => ?_, fun n B hB => ?_, fun n m B C pn pm hB hC hne hpn hpm hbb => ?_, fun b hb => ?_, fun n p h => hρe n p h⟩, fun k hk => ?_⟩, hlow⟩
  · rw [maskL_len]; have := hT.1.1; rw [maskL_len] at this; exact this
  · obtain ⟨h1, h2⟩ := hl i v hi hj
    have hVR := hT.1.2 i v r h1 hr hj
    rcases h2 with hpl | hpt | ⟨k, p, rfl, hk, hk'⟩
    · have := plain_eq 6 v r hpl hVR
      subst this
      exact plain_refl 6 v hpl
    · obtain ⟨q, hq, off, rfl⟩ := hp i v h1 hpt
      cases hVR with
      | ptr hσ => exact .ptr (by rw [hρn q hq]; exact hσ)
    · cases hVR with
      | opq hσ hs =>
        have := hR.ext k p hk
        rw [this] at hσ
        obtain rfl := Option.some.inj hσ
        exact .opq (hρe k p hk') hs
  · rw [hρ]; simp only [if_pos hg]; exact hR.glob g hg
  · obtain ⟨q, hq, rfl, rfl⟩ := heapL_get _ _ _ hB
    obtain ⟨p, c', fz, b1, b2, b3, b4, b5, b6, b7⟩ := hR.blk _ _ hB
    refine ⟨p, c', fz, by rw [hρn q hq]; exact b1, b2, b3, b4, b5, fun o v hv => ?_, b7⟩
    obtain ⟨r, hr1, hr2⟩ := b6 o v hv
    have hpl : plain 6 v = true := List.all_eq_true.1 (List.all_eq_true.1 hb q hq) v (List.mem_of_getElem? hv)
    have := plain_eq 6 v r hpl hr2
    subst this
    exact ⟨_, hr1, plain_refl 6 _ hpl⟩
  · obtain ⟨q, hq, rfl, rfl⟩ := heapL_get _ _ _ hB
    obtain ⟨q', hq', rfl, rfl⟩ := heapL_get _ _ _ hC
    rw [hρn q hq] at hpn
    rw [hρn q' hq'] at hpm
    exact hR.apart _ _ _ _ pn pm hB hC hne hpn hpm hbb
  · exact hR.prot b hb
  · rw [hρ]
    simp only
    rw [if_neg (by omega), oldOf_none fun q hq e => by have := (h3 q hq).2.1; omega]
    cases hh : ext' k with
    | none => rfl
    | some q => have := he' k q hh; omega
theorem AtM.val {P : Program} {G X N : Nat} {ext : Nat → Option Place} {live : List (Nat × Value)} {H : Tr} {w0 w : World} {a : Act} (h : AtM P G X N ext live H w0 a w) {i : Nat} {v : Value} (hi : (maskL N live)[i]? = some v) (hp : plain 6 v = true) : a.tmps.getD i undef = v := by
  obtain ⟨⟨σ, hT, hR, hf⟩, hlow⟩ := h
  have hj : notJ v = true := by
    cases v with
    | chan c => cases c <;> first | rfl | exact absurd hp (by simp [plain])
    | _ => rfl
  obtain ⟨r, hr1, hr2⟩ := hT.1.get hi hj
  rw [Array.getElem?_toList] at hr1
  rw [Array.getD_eq_getD_getElem?, hr1, Option.getD_some]
  exact (plain_eq 6 v r hp hr2).symm
theorem AtM.ret {P : Program} {G X N : Nat} {ext : Nat → Option Place} {live : List (Nat × Value)} {H : Tr} {w0 w : World} {a : Act} {fn : Func} {R : Ending → World → Prop} (h : AtM P G X N ext live H w0 a w) {i : Nat} {v : Value} (hfn : fn.results = #[.tmp i]) (hi : (maskL N live)[i]? = some v) (hp : plain 6 v = true)
    (hR : ∀ w', Below w0.heap.size w0 w' → R (.returned v) w') : bodyPost P fn R .ret a w := by
  have hd : a.defers = [] := by obtain ⟨⟨σ, hT, _⟩, _⟩ := h; exact hT.2
  refine ⟨hd, v, ?_, hR w h.low⟩
  rw [results_eq, hfn]
  have := h.val hi hp
  simp [resOne, Sem.run_bind', this, pure, Sem.run]
end Go.Proofs.YtofdiilfedjhkaaDoor.E
end

section
/- Operations on what is not looked into: their answers, as what is known ahead. -/
set_option linter.unusedVariables false
set_option linter.unusedSimpArgs false
namespace Go.Proofs.YtofdiilfedjhkaaDoor.E
open Go.RowKit
theorem pureOp {P : Program} {k t : Nat} {args : Array Value} {v : Value} {w : World} {ext : Nat → Option Place} (hk : k < 4) (r : Value) (hv : VR ext v r)
    (h : ∀ w' : World, (∀ b, b < w.heap.size → w'.heap[b]? = w.heap[b]?) → (execOp (constV ⟨args.toList.map (real ext 6)⟩) ⟨none, opX k t ⟨args.toList.map (real ext 6)⟩, typeX k ⟨args.toList.map (real ext 6)⟩, "", #[], none⟩).run P w' = .ok (.value r) w')
    (ha : args.toList.all (ready ext 6) = true) : PureC P (protX w ext) (BIG + (4 * t + k)) args v := by
  intro σ args' hs hA w' hw
  have : args' = ⟨args.toList.map (real ext 6)⟩ := by
    refine Array.ext' (List.ext_getElem? fun i => ?_)
    rw [List.getElem?_map]
    simp only [Array.getElem?_toList]
    cases hx : args[i]? with
    | none =>
      have : args'[i]? = none := by
        rw [Array.getElem?_eq_none_iff] at hx ⊢
        have := hA.1; omega
      rw [this]; rfl
    | some x =>
      have hl : i < args'.size := by
        have := (Array.getElem?_eq_some_iff.1 hx).1
        have := hA.1; omega
      have hb : args'[i]? = some args'[i] := Array.getElem?_eq_getElem hl
      rw [hb]
      refine congrArg some (real_eq hs 6 x _ ?_ (hA.2 i x _ hx hb))
      exact List.all_eq_true.1 ha x (Array.mem_toList_iff.2 (Array.mem_of_getElem? hx))
  subst this
  rw [runX_code k t hk]
  refine ⟨.value r, w', h w' fun b hb => ?_, hv, Below.refl _ _⟩
  have := hw b hb
  rw [this]
  simp [protX, hb]
theorem pureLen {P : Program} {t n : Nat} {e ty : TypeId} {w : World} {ext : Nat → Option Place} {A : Option Addr} {L c : Nat} {p : Place} (hu : P.underlying t = some (.slice e)) (hp : ext n = some p) (hv : p.v = .slice A L c) : PureC P (protX w ext) (BIG + (4 * t + 2)) #[.chan (some n), .int .i64 (Int.ofNat ty)] (.int .i64 (L : Int)) := by
  refine pureOp (by omega) (.int .i64 (L : Int)) (.int _ _) (fun w' _ => ?_) (by simp [ready, hp])
  have e1 : (⟨(#[Value.chan (some n), .int .i64 (Int.ofNat ty)] : Array Value).toList.map (real ext 6)⟩ : Array Value) = #[.slice A L c, .int .i64 (Int.ofNat ty)] := by simp [real, hp, hv]
  rw [e1]
  have e2 : execOp (constV #[.slice A L c, .int .i64 (Int.ofNat ty)]) ⟨none, opX 2 t #[.slice A L c, .int .i64 (Int.ofNat ty)], typeX 2 #[.slice A L c, .int .i64 (Int.ofNat ty)], "", #[], none⟩ = (do pure (.value (← Builtin.len_ #[t] (typeX 2 #[.slice A L c, .int .i64 (Int.ofNat ty)]) #[.slice A L c]))) := by
    simp [execOp, opX, resolve, invoke, builtin, constV]
  rw [e2]
  simp [Builtin.len_, Sem.run_bind, Go.run_underlying hu, goInt, pure, Sem.run]
theorem pureIndex {P : Program} {t n m : Nat} {e : TypeId} {i : TypeInfo} {w : World} {ext : Nat → Option Place} {ad : Addr} {L c k : Nat} {p q : Place} (hu : P.underlying t = some (.slice e)) (hi : P.info? e = some i) (hp : ext n = some p) (hv : p.v = .slice (some ad) L c) (hk : k < L) (hq : ext m = some q) (hqv : q.v = .pointer (some (ad.add (k * i.size)))) :
    PureC P (protX w ext) (BIG + (4 * t + 1)) #[.chan (some n), .int .i64 (k : Int)] (.chan (some m)) := by
  refine pureOp (by omega) (.pointer (some (ad.add (k * i.size)))) ?_ (fun w' _ => ?_) (by simp [ready, hp])
  · rw [← hqv]; exact .opq hq (by rw [hqv])
  · have e1 : (⟨(#[Value.chan (some n), .int .i64 (k : Int)] : Array Value).toList.map (real ext 6)⟩ : Array Value) = #[.slice (some ad) L c, .int .i64 (k : Int)] := by simp [real, hp, hv]
    rw [e1]
    have e2 : execOp (constV #[.slice (some ad) L c, .int .i64 (k : Int)]) ⟨none, opX 1 t #[.slice (some ad) L c, .int .i64 (k : Int)], typeX 1 #[.slice (some ad) L c, .int .i64 (k : Int)], "", #[], none⟩ = (do pure (.value (← Instr.indexAt t (.slice (some ad) L c) (.int .i64 (k : Int))))) := rfl
    rw [e2]
    unfold Instr.indexAt
    have hb : 0 ≤ (k : Int) ∧ (k : Int) < (L : Int) := by omega
    simp [Sem.run_bind, run_underlying hu, run_sizeOf hi, asIntOf, Instr.sureAddr, pure, Sem.run, hb, bind, Sem.bind, Sem.run_bind']
    intro h
    exact absurd h (by omega)
theorem pureLoad {P : Program} {t n : Nat} {d : TypeDesc} {i : TypeInfo} {w : World} {ext : Nat → Option Place} {ad : Addr} {p : Place} {cs : List Value} (hu : P.underlying t = some d) (hi : P.info? t = some i) (hd : isAggD d = true) (hs : cs.length = i.size) (hp : ext n = some p) (hv : p.v = .pointer (some ad)) (hlt : ad.block < w.heap.size)
    (hc : ∀ j v, cs[j]? = some v → w.cell? (ad.add j) = some (real ext 5 v)) (hr : cs.all (ready ext 5) = true) (hx : ∀ k p, ext k = some p → (match p.v with | .agg _ | .tuple _ | .bool _ => false | _ => true) = true) :
    PureC P (protX w ext) (BIG + (4 * t + 0)) #[.chan (some n)] (.agg ⟨cs⟩) := by
  refine pureOp (by omega) (.agg ⟨cs.map (real ext 5)⟩) (vr_real hx 6 (.agg ⟨cs⟩) hr) (fun w' hw => ?_) (by simp [ready, hp])
  have e1 : (⟨(#[Value.chan (some n)] : Array Value).toList.map (real ext 6)⟩ : Array Value) = #[.pointer (some ad)] := by simp [real, hp, hv]
  rw [e1]
  have e2 : execOp (constV #[.pointer (some ad)]) ⟨none, opX 0 t #[.pointer (some ad)], typeX 0 #[.pointer (some ad)], "", #[], none⟩ = (do pure (.value (← Instr.loadAt t (.pointer (some ad))))) := rfl
  rw [e2]
  have hl : (loadVar t ad).run P w' = .ok (.agg ⟨cs.map (real ext 5)⟩) w' := by
    unfold loadVar
    rw [show (isAgg t >>= _) = (isAgg t).bind _ from rfl, Sem.run_bind', run_isAgg hu]
    simp only [Result.andThen_ok, hd]
    have hload : (loadCells ad i.size).run P w' = .ok (cs.map (real ext 5)).toArray w' := by
      rw [← hs, show cs.length = (cs.map (real ext 5)).length by simp]
      refine run_loadCells_list w' _ _ fun j v hj => ?_
      rw [List.getElem?_map] at hj
      cases hcj : cs[j]? with
      | none => rw [hcj] at hj; cases hj
      | some u =>
        rw [hcj] at hj
        obtain rfl := Option.some.inj hj
        rw [← hc j u hcj]
        unfold World.cell?
        have hb : (ad.add j).block = ad.block := by unfold Addr.add; split <;> rfl
        rw [hb, hw _ hlt]
    simp [Sem.run_bind, run_sizeOf hi, hload, pure, Sem.run]
  simp [Instr.loadAt, Instr.sureAddr, Sem.run_bind, hl, pure, Sem.run]
/-- A cell. -/
theorem pureLoad1 {P : Program} {t n : Nat} {d : TypeDesc} {w : World} {ext : Nat → Option Place} {ad : Addr} {p : Place} {v : Value} (hu : P.underlying t = some d) (hd : isAggD d = false) (hp : ext n = some p) (hv : p.v = .pointer (some ad)) (hlt : ad.block < w.heap.size)
    (hc : w.cell? ad = some v) (hpl : plain 6 v = true) :
    PureC P (protX w ext) (BIG + (4 * t + 0)) #[.chan (some n)] v := by
  refine pureOp (by omega) v (plain_refl 6 v hpl) (fun w' hw => ?_) (by simp [ready, hp])
  have e1 : (⟨(#[Value.chan (some n)] : Array Value).toList.map (real ext 6)⟩ : Array Value) = #[.pointer (some ad)] := by simp [real, hp, hv]
  rw [e1]
  have e2 : execOp (constV #[.pointer (some ad)]) ⟨none, opX 0 t #[.pointer (some ad)], typeX 0 #[.pointer (some ad)], "", #[], none⟩ = (do pure (.value (← Instr.loadAt t (.pointer (some ad))))) := rfl
  rw [e2]
  have hc' : w'.cell? ad = some v := by
    rw [← hc]
    unfold World.cell?
    rw [hw _ hlt]
  have hl : (loadVar t ad).run P w' = .ok v w' := by
    unfold loadVar
    rw [show (isAgg t >>= _) = (isAgg t).bind _ from rfl, Sem.run_bind', run_isAgg hu]
    simp only [Result.andThen_ok, hd]
    simp [load, Sem.run, hc']
  simp [Instr.loadAt, Instr.sureAddr, Sem.run_bind, hl, pure, Sem.run]
theorem pureField {P : Program} {t n m k o : Nat} {fields : Array Field} {f : Field} {i : TypeInfo} {w : World} {ext : Nat → Option Place} {ad : Addr} {p q : Place} (hu : P.underlying t = some (.struct fields)) (hf : fields[k]? = some f) (hi : P.info? f.type = some i) (hs : i.size ≠ 0) (ho : f.offset = o) (hp : ext n = some p) (hv : p.v = .pointer (some ad)) (hq : ext m = some q) (hqv : q.v = .pointer (some (ad.add o))) :
    PureC P (protX w ext) (BIG + (4 * t + 3)) #[.chan (some n), .int .i64 (Int.ofNat k)] (.chan (some m)) := by
  subst ho
  refine pureOp (by omega) (.pointer (some (ad.add f.offset))) ?_ (fun w' _ => ?_) (by simp [ready, hp])
  · rw [← hqv]; exact .opq hq (by rw [hqv])
  · have e1 : (⟨(#[Value.chan (some n), .int .i64 (Int.ofNat k)] : Array Value).toList.map (real ext 6)⟩ : Array Value) = #[.pointer (some ad), .int .i64 (Int.ofNat k)] := by simp [real, hp, hv]
    rw [e1]
    have e2 : execOp (constV #[.pointer (some ad), .int .i64 (Int.ofNat k)]) ⟨none, opX 3 t #[.pointer (some ad), .int .i64 (Int.ofNat k)], typeX 3 #[.pointer (some ad), .int .i64 (Int.ofNat k)], "", #[], none⟩ = (do pure (.value (← Instr.fieldAt t (.pointer (some ad)) k))) := rfl
    rw [e2]
    unfold Instr.fieldAt
    simp only [Sem.run_bind, run_underlying hu, Result.andThen_ok, hf]
    have : (fieldPlace ad f).run P w' = .ok (ad.add f.offset) w' := by
      unfold fieldPlace
      simp only [Sem.run_bind, run_sizeOf hi, Result.andThen_ok]
      cases hz : i.size with
      | zero => exact absurd hz hs
      | succ m => simp [pure, Sem.run]
    simp [Instr.sureAddr, pure, Sem.run, Sem.run_bind, this]
end Go.Proofs.YtofdiilfedjhkaaDoor.E
end

section
/- Stretches: from one round's names to another's; whole codes. -/
set_option linter.unusedVariables false
set_option linter.unusedSimpArgs false
namespace Go.Proofs.YtofdiilfedjhkaaDoor.E
open Go.RowKit
theorem wp_whole {P : Program} {c : Code} {M : Act → World → Prop} {Q : Exit → Act → World → Prop} {a : Act} {w : World} (h : wpMid P [true] (.seq c .skip) M Q a w) : c.wp P (Exit.then M Q) a w := h
theorem wp_wholeQ {P : Program} {c : Code} {Q : Exit → Act → World → Prop} {a : Act} {w : World} (h : wpMid P [true] (.seq c .skip) (Q .normal) Q a w) : c.wp P Q a w := by
  have := wp_whole h
  rw [then_self] at this
  exact this
def okV (tri : List (Nat × Nat × Blk)) (m : Nat) (v : Value) : Bool := plain 6 v || match v with
  | .pointer (some ⟨n, _, none⟩) => tri.any fun q => Nat.beq q.2.1 n
  | .chan (some k) => Nat.beq k m
  | _ => false
/-- Other names from ahead; that one stays by which a row is known. -/
theorem AtM.swap {P : Program} {G X N m : Nat} {ext ext' : Nat → Option Place} {live : List (Nat × Value)} {tri : List (Nat × Nat × Blk)} {w0 w : World} {a : Act} (h : AtM P G X N ext live (heapL tri) w0 a w) (he : ∀ n p, ext n = some p → G ≤ n ∧ n < G + X) (he' : ∀ n p, ext' n = some p → G ≤ n ∧ n < G + X)
    (hx : ∀ k p, ext k = some p → (match p.v with | .agg _ | .tuple _ | .bool _ => false | _ => true) = true) (hx' : ∀ k p, ext' k = some p → (match p.v with | .agg _ | .tuple _ | .bool _ => false | _ => true) = true)
    (h64 : ∃ p, ext m = some p ∧ ext' m = some p) (hc : (tri.all (fun q => q.2.2.cells.all (plain 6)) && tri.all (fun q => Nat.ble G q.2.1 && Nat.blt q.2.1 (G + X) && (ext' q.2.1).isNone) && live.all (fun q => okV tri m q.2) && Nat.blt 0 G) = true) : AtM P G X N ext' live (heapL tri) w0 a w := by
  simp only [Bool.and_eq_true] at hc
  obtain ⟨⟨⟨c1, c2⟩, c3⟩, c4⟩ := hc
  have hok : ∀ (i : Nat) (v : Value), (maskL N live)[i]? = some v → notJ v = true → okV tri m v = true := fun i v hi hj => List.all_eq_true.1 c3 (i, v) (maskL_get N live i v hi hj)
  refine h.ext' he he' hx hx' c1 (fun q hq => ?_) (fun i v hi hj => ⟨hi, ?_⟩) (fun i v hi hp => ?_) (Nat.blt_eq.mp c4)
  · have := List.all_eq_true.1 c2 q hq
    simp only [Bool.and_eq_true, Nat.ble_eq, Nat.blt_eq, Option.isNone_iff_eq_none] at this
    exact ⟨this.1.1, this.1.2, this.2⟩
  · have := hok i v hi hj
    unfold okV at this
    rw [Bool.or_eq_true] at this
    rcases this with h1 | h1
    · exact .inl h1
    · split at h1
      · exact .inr (.inl rfl)
      · rename_i k
        have := Nat.eq_of_beq_eq_true h1
        subst this
        obtain ⟨p, hp, hp'⟩ := h64
        exact .inr (.inr ⟨_, p, rfl, hp, hp'⟩)
      · cases h1
  · have hj : notJ v = true := by
      unfold isPtr at hp
      split at hp
      · rfl
      · cases hp
    have := hok i v hi hj
    unfold isPtr at hp
    split at hp
    · rename_i n o
      unfold okV at this
      simp only [plain, Bool.false_or] at this
      rw [List.any_eq_true] at this
      obtain ⟨q, hq, he⟩ := this
      exact ⟨q, hq, o, by rw [Nat.eq_of_beq_eq_true he]⟩
    · cases hp
theorem AtM.less {P : Program} {G X N : Nat} {ext : Nat → Option Place} {live : List (Nat × Value)} {H : Tr} {w0 w : World} {a : Act} (h : AtM P G X N ext live H w0 a w) (live' : List (Nat × Value)) (hl : ∀ q ∈ live', (maskL N live)[q.1]? = some q.2) : AtM P G X N ext live' H w0 a w := by
  obtain ⟨⟨σ, hT, hR, hf⟩, hlow⟩ := h
  refine ⟨⟨σ, ⟨⟨?_, fun i v r hi hr hj => ?_⟩, hT.2⟩, hR, hf⟩, hlow⟩
  · rw [maskL_len]; have := hT.1.1; rw [maskL_len] at this; exact this
  · exact hT.1.2 i v r (hl (i, v) (maskL_get N live' i v hi hj)) hr hj
theorem inBlock_exit {id : Nat} {Q : Exit → Act → World → Prop} {a : Act} {w : World} (h : Q .normal a w) : Exit.inBlock id Q (.exit id) a w := by
  unfold Exit.inBlock
  simpa using h
end Go.Proofs.YtofdiilfedjhkaaDoor.E
end
