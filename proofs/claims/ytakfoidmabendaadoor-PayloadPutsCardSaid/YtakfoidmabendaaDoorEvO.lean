/- A region that draws its order; code; calls. -/
import Derived.Test.YtakfoidmabendaaDoorEvN
set_option linter.unusedVariables false
set_option linter.unusedSimpArgs false
namespace Go.Proofs.YtakfoidmabendaaDoor.E
section
variable {P : Program} {st : Bool} {Fr : Prot} {G : Nat} {callF : FuncId → Array Value → Ev Value} {ops : Array Oper}

def Ent.toRec (e : Ent) : Rec := ⟨e.i, e.s.name, e.s'.name, e.log⟩

theorem regD_seq (hc : ∀ f a, Framed (callF f a)) : ∀ (l : List Nat) (t : List Value) (H : Tr) (s : Sup) (r : Res (List Value × List Rec)), regD P st callF ops l t H s = some r →
    ∃ c, Seq P callF st ops c t H r.val.1 r.hp ∧ c.map Ent.i = l ∧ c.map Ent.toRec = r.val.2 ∧ (All r.need → ∀ e ∈ c, All e.need) ∧
      (∀ e ∈ c, s.name ≤ e.s.name ∧ e.s.name ≤ e.s'.name ∧ e.s'.name ≤ r.sup.name) ∧ c.Pairwise (fun x y => x.s'.name ≤ y.s.name) := by
  intro l
  induction l with
  | nil =>
    intro t H s r h
    simp only [regD, Ev.pure, Option.some.injEq] at h
    subst h
    refine ⟨[], ⟨rfl, rfl⟩, rfl, rfl, ?_, ?_, .nil⟩
    · intro _ e he; cases he
    · intro e he; cases he
  | cons i l ih =>
    intro t H s r h
    unfold regD at h
    obtain ⟨r₁, r₂, h₁, h₂, rfl⟩ := bind_eq h
    obtain ⟨r₃, r₄, h₃, h₄, rfl⟩ := bind_eq h₂
    rw [putE_eq] at h₃
    simp only [Ev.pure, Option.some.injEq] at h₃
    subst h₃
    obtain ⟨r₅, r₆, h₅, h₆, rfl⟩ := bind_eq h₄
    simp only [Ev.pure, Option.some.injEq] at h₆
    subst h₆
    unfold logged at h₁
    cases g : stepVal P callF st ops i t H s with
    | none => simp [g] at h₁
    | some q =>
      obtain ⟨v, H₁, s₁, lg, p₁⟩ := q
      simp only [g, Option.some.injEq] at h₁
      subst h₁
      obtain ⟨c, k1, k2, k3, k4, k5, k6⟩ := ih _ _ _ _ h₅
      have hm : s.name ≤ s₁.name := (framed_stepVal (P := P) (st := st) hc ops i t).mono _ _ _ g
      have hm2 : s₁.name ≤ r₅.sup.name := (framed_regD (P := P) (ops := ops) hc l _).mono _ _ _ h₅
      refine ⟨⟨i, s, s₁, lg, p₁, v⟩ :: c, ⟨H₁, g, k1⟩, by simp [k2], by simp [k3, Ent.toRec], ?_, ?_, ?_⟩
      · intro hn e he
        have n1 := (all_app hn).1
        have n2 := (all_app (all_app (all_app hn).2).2).1
        rcases List.mem_cons.1 he with rfl | he
        · exact n1
        · exact k4 n2 e he
      · intro e he
        rcases List.mem_cons.1 he with rfl | he
        · exact ⟨Nat.le_refl _, hm, hm2⟩
        · obtain ⟨a, b, c⟩ := k5 e he
          exact ⟨Nat.le_trans hm a, b, c⟩
      · exact List.pairwise_cons.2 ⟨fun y hy => (k5 y hy).1, k6⟩

/-! ### bits -/
theorem maskOf_bit {M : List Nat} : ∀ {ps : List Nat} {x : Nat}, (maskOf M ps).testBit x = true → ∃ p ∈ ps, x = p ∨ (M.getD p 0).testBit x = true := by
  intro ps
  induction ps with
  | nil => intro x h; simp [maskOf] at h
  | cons p ps ih =>
    intro x h
    have e : maskOf M (p :: ps) = maskOf M ps ||| (2 ^ p ||| M.getD p 0) := rfl
    rw [e, Nat.testBit_or, Nat.testBit_or, Bool.or_eq_true, Bool.or_eq_true] at h
    rcases h with h | h | h
    · obtain ⟨q, hq, hx⟩ := ih h
      exact ⟨q, by simp [hq], hx⟩
    · rw [Nat.testBit_two_pow] at h
      have h : p = x := by simpa using h
      exact ⟨p, by simp, .inl h.symm⟩
    · exact ⟨p, by simp, .inr h⟩
theorem stepsOk_spec {M : List Nat} : ∀ (l : List Oper) (i : Nat), stepsOk M l i = true → ∀ (j : Nat) (o : Oper), l[j]? = some o → (∀ p ∈ preds o, p < i + j) ∧ M.getD (i + j) 0 = maskOf M (preds o) := by
  intro l
  induction l with
  | nil => intro i _ j o h; simp at h
  | cons o l ih =>
    intro i h j o' ho
    simp only [stepsOk, Bool.and_eq_true, List.all_eq_true] at h
    cases j with
    | zero =>
      simp at ho; subst ho
      exact ⟨fun p hp => by have := h.1.1 p hp; simpa [Nat.blt_eq] using this, Nat.eq_of_beq_eq_true h.1.2⟩
    | succ j =>
      have := ih (i + 1) h.2 j o' (by simpa using ho)
      rw [show i + (j + 1) = i + 1 + j from by omega]
      exact this
theorem pairOk_spec {M : List Nat} {x : Oper} {i : Nat} : ∀ (l : List Oper) (j : Nat), pairOk ops M x i l j = true → ∀ (k : Nat) (y : Oper), l[k]? = some y → (M.getD (j + k) 0).testBit i = true ∨ x.apart ops y = true := by
  intro l
  induction l with
  | nil => intro j _ k y h; simp at h
  | cons o l ih =>
    intro j h k y hy
    simp only [pairOk, Bool.and_eq_true, Bool.or_eq_true] at h
    cases k with
    | zero => simp at hy; subst hy; exact h.1
    | succ k =>
      have := ih (j + 1) h.2 k y (by simpa using hy)
      rw [show j + (k + 1) = j + 1 + k from by omega]
      exact this
theorem pairsOk_spec {M : List Nat} : ∀ (l : List Oper) (i : Nat), pairsOk ops M l i = true → ∀ (a b : Nat) (x y : Oper), a < b → l[a]? = some x → l[b]? = some y → (M.getD (i + b) 0).testBit (i + a) = true ∨ x.apart ops y = true := by
  intro l
  induction l with
  | nil => intro i _ a b x y _ h; simp at h
  | cons o l ih =>
    intro i h a b x y hab hx hy
    simp only [pairsOk, Bool.and_eq_true] at h
    cases b with
    | zero => omega
    | succ b =>
      cases a with
      | zero =>
        simp at hx; subst hx
        have := pairOk_spec (ops := ops) l (i + 1) h.1 b y (by simpa using hy)
        rw [show i + (b + 1) = i + 1 + b from by omega]
        exact this
      | succ a =>
        have := ih (i + 1) h.2 a b x y (by omega) (by simpa using hx) (by simpa using hy)
        rw [show i + (b + 1) = i + 1 + b from by omega, show i + (a + 1) = i + 1 + a from by omega]
        exact this
theorem quiet_spec {r : Rec} (h : r.quiet = true) : r.log = [] ∧ r.lo = r.hi := by
  unfold Rec.quiet at h
  split at h
  · rename_i hl; exact ⟨hl, Nat.eq_of_beq_eq_true h⟩
  · cases h
structure DFree (x y : Rec) : Prop where
  cl : ∀ ev ∈ x.log, ∀ ev' ∈ y.log, clash ev ev' = false
  fx : ∀ ev ∈ y.log, ¬ Fs x.lo x.hi ev.name
  fy : ∀ ev ∈ x.log, ¬ Fs y.lo y.hi ev.name
theorem free_spec {x y : Rec} (h : x.free y = true) : DFree x y := by
  simp only [Rec.free, Bool.and_eq_true, Bool.not_eq_true'] at h
  obtain ⟨⟨h1, h2⟩, h3⟩ := h
  refine ⟨fun ev he ev' he' => ?_, fun ev he hf => ?_, fun ev he hf => ?_⟩
  · cases hc : clash ev ev' with
    | false => rfl
    | true =>
      have : (x.log.any fun e => y.log.any (clash e)) = true := List.any_eq_true.2 ⟨ev, he, List.any_eq_true.2 ⟨ev', he', hc⟩⟩
      rw [this] at h1; cases h1
  · have : x.hits y = true := List.any_eq_true.2 ⟨ev, he, by simp only [Bool.and_eq_true, Nat.ble_eq, Nat.blt_eq]; exact hf⟩
    rw [this] at h2; cases h2
  · have : y.hits x = true := List.any_eq_true.2 ⟨ev, he, by simp only [Bool.and_eq_true, Nat.ble_eq, Nat.blt_eq]; exact hf⟩
    rw [this] at h3; cases h3
theorem free_quiet_left {x y : Rec} (h : x.quiet = true) : DFree x y := by
  obtain ⟨h1, h2⟩ := quiet_spec h
  refine ⟨?_, ?_, ?_⟩
  · intro ev he; rw [h1] at he; cases he
  · intro ev _ hf; have := hf.1; have := hf.2; omega
  · intro ev he; rw [h1] at he; cases he
theorem free_quiet_right {x y : Rec} (h : y.quiet = true) : DFree x y := by
  obtain ⟨h1, h2⟩ := quiet_spec h
  refine ⟨?_, ?_, ?_⟩
  · intro ev _ ev' he; rw [h1] at he; cases he
  · intro ev he; rw [h1] at he; cases he
  · intro ev _ hf; have := hf.1; have := hf.2; omega
theorem freeOf_spec {M : List Nat} {x : Rec} : ∀ {l : List Rec}, freeOf M x l = true → ∀ y ∈ l, (M.getD y.i 0).testBit x.i = true ∨ DFree x y := by
  intro l
  induction l with
  | nil => intro _ y h; cases h
  | cons z l ih =>
    intro h y hy
    simp only [freeOf, Bool.and_eq_true, Bool.or_eq_true] at h
    rcases List.mem_cons.1 hy with rfl | hy
    · exact h.1.imp id free_spec
    · exact ih h.2 y hy
theorem allFree_spec {M : List Nat} : ∀ {l : List Rec}, allFree M l = true → l.Pairwise fun x y => (M.getD y.i 0).testBit x.i = true ∨ DFree x y := by
  intro l
  induction l with
  | nil => intro _; exact .nil
  | cons x l ih =>
    intro h
    unfold allFree at h
    cases hq : x.quiet with
    | true => simp only [hq] at h; exact List.pairwise_cons.2 ⟨fun y _ => .inr (free_quiet_left hq), ih h⟩
    | false =>
      simp only [hq, Bool.and_eq_true] at h
      refine List.pairwise_cons.2 ⟨fun y hy => ?_, ih h.2⟩
      cases hy' : y.quiet with
      | true => exact .inr (free_quiet_right hy')
      | false => exact freeOf_spec h.1 y (List.mem_filter.2 ⟨hy, by simp [hy']⟩)

/-! ### any order -/
theorem ready_iff {listed : Array Bool} {i : Nat} : i ∈ Region.ready .any ops listed ↔ ∃ o, ops[i]? = some o ∧ listed.getD i true = false ∧ ∀ p ∈ preds o, listed.getD p false = true := by
  unfold Region.ready preds
  simp only [List.mem_filter, List.mem_range, Bool.and_eq_true, Bool.not_eq_true']
  constructor
  · rintro ⟨hi, hl, hr⟩
    have ho : ops[i]? = some ops[i] := by simp [hi]
    rw [ho] at hr
    simp only [Option.map_some, Option.getD_some] at hr
    refine ⟨ops[i], ho, hl, fun p hp => ?_⟩
    simp only [List.mem_filterMap] at hp
    obtain ⟨e, he, hx⟩ := hp
    cases hb : Region.binds .any e with
    | false => rw [hb] at hx; cases hx
    | true =>
      rw [hb] at hx
      cases hx
      have := Array.all_eq_true'.1 hr e (by simpa using he)
      simpa [hb] using this
  · rintro ⟨o, ho, hl, hp⟩
    have hi : i < ops.size := by
      rcases Nat.lt_or_ge i ops.size with h | h
      · exact h
      · simp [Array.getElem?_eq_none h] at ho
    refine ⟨hi, hl, ?_⟩
    rw [ho]
    simp only [Option.map_some, Option.getD_some]
    refine Array.all_eq_true'.2 fun e he => ?_
    cases hb : Region.binds .any e with
    | false => simp
    | true =>
      simp only [Bool.not_true, Bool.false_or]
      exact hp _ (List.mem_filterMap.2 ⟨e, by simpa using he, by simp [hb]⟩)

theorem any_sound (hc : CallsOk P Fr G callF) {M : List Nat} (hst : ∀ (i : Nat) (o : Oper), ops[i]? = some o → (∀ p ∈ preds o, p < i) ∧ M.getD i 0 = maskOf M (preds o)) (hok : ∀ (i : Nat) (o : Oper), ops[i]? = some o → opOk G o = true) {Q : Exit → Act → World → Prop} :
    ∀ (n : Nat) (c : List Ent), c.length = n → ∀ (t : List Value) (H : Tr) (t' : List Value) (H' : Tr) (σ : Nm) (a : Act) (w : World) (listed : Array Bool) (lo hi : Nat), Seq P callF st ops c t H t' H' → TR σ t a → Rel P Fr G σ H w →
      (∀ e ∈ c, Lacks e H ∧ (∀ n, Fs e.s.name e.s'.name n → σ n = none) ∧ G ≤ e.s.name ∧ lo ≤ e.s.name ∧ e.s'.name ≤ hi ∧ All e.need ∧ ∃ o, ops[e.i]? = some o) → c.Pairwise Dis →
      c.Pairwise (fun x y => (M.getD y.i 0).testBit x.i = true ∨ Ind ops x y) → c.Pairwise (fun x y => x.i < y.i) → listed.size = ops.size → (∀ (i : Nat) (o : Oper), ops[i]? = some o → (listed.getD i true = false ↔ ∃ e ∈ c, e.i = i)) →
      (∀ (i : Nat) (o : Oper), ops[i]? = some o → listed.getD i true = true → ∀ p ∈ preds o, listed.getD p false = true) →
      (∀ τ a' w' H'', Aft σ τ lo hi → Rel P Fr G τ H'' w' → Out Fr w w' → TR τ t' a' → Eqv H' H'' → Q .normal a' w') → wpAny P .any ops Q n listed a w := by
  intro n
  induction n with
  | zero =>
    intro c hcl t H t' H' σ a w listed lo hi hseq hT hR hents hdis hpi hlt hsz hlisted hclosed hK
    have : c = [] := List.eq_nil_of_length_eq_zero hcl
    subst this
    obtain ⟨rfl, rfl⟩ := hseq
    refine ⟨?_, hK σ a w _ (.refl ..) hR (.refl ..) hT (fun _ => rfl)⟩
    cases hr : Region.ready .any ops listed with
    | nil => rfl
    | cons i l =>
      obtain ⟨o, ho, hl, _⟩ := ready_iff.1 (hr ▸ List.mem_cons_self : i ∈ Region.ready .any ops listed)
      obtain ⟨e, he, _⟩ := (hlisted i o ho).1 hl
      cases he
  | succ n ih =>
    intro c hcl t H t' H' σ a w listed lo hi hseq hT hR hents hdis hpi hlt hsz hlisted hclosed hK
    have hgetD : ∀ p, p < ops.size → listed.getD p false = listed.getD p true := fun p hp => by simp [Array.getD, hsz, hp]
    refine ⟨fun hnil => ?_, fun i hi' => ?_⟩
    · -- the first one left is ready
      cases c with
      | nil => cases hcl
      | cons e c =>
        exfalso
        obtain ⟨_, _, _, _, _, _, o, ho⟩ := hents e (by simp)
        have : e.i ∈ Region.ready .any ops listed := by
          refine ready_iff.2 ⟨o, ho, (hlisted e.i o ho).2 ⟨e, by simp, rfl⟩, fun p hp => ?_⟩
          have hpl := (hst e.i o ho).1 p hp
          have hes : e.i < ops.size := by
            rcases Nat.lt_or_ge e.i ops.size with h | h
            · exact h
            · simp [Array.getElem?_eq_none h] at ho
          rw [hgetD p (by omega)]
          cases hq : listed.getD p true with
          | true => rfl
          | false =>
            have hpo : ops[p]? = some ops[p] := by simp [show p < ops.size from by omega]
            obtain ⟨x, hx, hxi⟩ := (hlisted p _ hpo).1 hq
            rcases List.mem_cons.1 hx with rfl | hx
            · omega
            · have := (List.pairwise_cons.1 hlt).1 x hx; omega
        rw [hnil] at this; cases this
    · obtain ⟨o, ho, hl, hps⟩ := ready_iff.1 hi'
      obtain ⟨e, he, rfl⟩ := (hlisted i o ho).1 hl
      obtain ⟨c₁, c₂, rfl⟩ := List.append_of_mem he
      -- what is ahead of it in the list does not bind it
      have reach : ∀ (k : Nat) (ok : Oper), ops[k]? = some ok → (∀ p ∈ preds ok, listed.getD p false = true) → ∀ x, (M.getD k 0).testBit x = true → listed.getD x false = true := by
        intro k
        induction k using Nat.strongRecOn with
        | _ k ihk =>
          intro ok hok' hp x hx
          rw [(hst k ok hok').2] at hx
          obtain ⟨p, hpm, rfl | hx⟩ := maskOf_bit hx
          · exact hp _ hpm
          · have hpk := (hst k ok hok').1 p hpm
            have hks : k < ops.size := by
              rcases Nat.lt_or_ge k ops.size with h | h
              · exact h
              · simp [Array.getElem?_eq_none h] at hok'
            have hpo : ops[p]? = some ops[p] := by simp [show p < ops.size from by omega]
            exact ihk p hpk _ hpo (fun q hq => hclosed p _ hpo (by rw [← hgetD p (by omega)]; exact hp p hpm) q hq) x hx
      have hInd : ∀ x ∈ c₁, Ind ops x e := by
        intro x hx
        rw [List.pairwise_append] at hpi
        rcases hpi.2.2 x hx e (by simp) with h | h
        · exfalso
          have h1 := reach e.i o ho hps x.i h
          obtain ⟨_, _, _, _, _, _, ox, hox⟩ := hents x (by simp [hx])
          have h2 := (hlisted x.i ox hox).2 ⟨x, by simp [hx], rfl⟩
          have hxs : x.i < ops.size := by
            rcases Nat.lt_or_ge x.i ops.size with h | h
            · exact h
            · simp [Array.getElem?_eq_none h] at hox
          rw [hgetD _ hxs, h2] at h1; cases h1
        · exact h
      obtain ⟨H'', ⟨H₁, g₁, g₂⟩, hE⟩ := seq_front hc.1 c₁ e c₂ t H t' H' hseq (fun x hx => (hents x hx).1) hdis hInd
      obtain ⟨hlk, hσe, hGe, hloe, hhie, hne, _⟩ := hents e (by simp)
      have hsub : ∀ y ∈ c₁ ++ c₂, y ∈ c₁ ++ e :: c₂ := fun y hy => by simp at hy ⊢; rcases hy with hy | hy <;> simp [hy]
      have hsl : List.Sublist (c₁ ++ c₂) (c₁ ++ e :: c₂) := List.Sublist.append (List.Sublist.refl _) (List.sublist_cons_self _ _)
      have hpe : ∀ y ∈ c₁ ++ c₂, Dis e y := by
        intro y hy
        have hp := hdis
        rw [List.pairwise_append] at hp
        obtain ⟨p1, p2, p3⟩ := hp
        simp at hy
        rcases hy with hy | hy
        · exact fun n a b => p3 y hy e (by simp) n b a
        · exact (List.pairwise_cons.1 p2).1 y hy
      have hne' : ∀ y ∈ c₁ ++ c₂, y.i ≠ e.i := by
        intro y hy
        have hp := hlt
        rw [List.pairwise_append] at hp
        obtain ⟨p1, p2, p3⟩ := hp
        simp at hy
        rcases hy with hy | hy
        · have := p3 y hy e (by simp); omega
        · have := (List.pairwise_cons.1 p2).1 y hy; omega
      have hce := chg_of (framed_stepVal (P := P) (st := st) hc.1 ops e.i t) g₁ hlk
      have hstep := sim_step (P := P) (Fr := Fr) (G := G) (ops := ops) hc hT (i := e.i) (hok e.i) Q H e.s _ w g₁ hne hR hσe hGe
      refine wpOp_mono (fun a' w' hk => ?_) hstep
      obtain ⟨r, rfl, τ, ha, hR₁, hO, hv⟩ := hk
      simp only at ha hR₁ hv
      refine ih (c₁ ++ c₂) (by simp at hcl ⊢; omega) _ _ t' H'' τ _ w' _ lo hi g₂ ((hT.sub ha.keep).put _ hv) hR₁ ?_ (hdis.sublist hsl) (hpi.sublist hsl) (hlt.sublist hsl) (by simpa using hsz) ?_ ?_ ?_
      · intro y hy
        obtain ⟨y1, y2, y3, y4, y5, y6, y7⟩ := hents y (hsub y hy)
        exact ⟨fun n hn => hce.none n (fun q => hpe y hy n q hn) (y1 n hn), fun n hn => ha.none (y2 n hn) (fun q => hpe y hy n q hn), y3, y4, y5, y6, y7⟩
      · intro k ok hok'
        have hks : k < ops.size := by
          rcases Nat.lt_or_ge k ops.size with h | h
          · exact h
          · simp [Array.getElem?_eq_none h] at hok'
        by_cases hke : k = e.i
        · subst hke
          constructor
          · intro h
            simp [Array.getD, hsz, hks] at h
          · rintro ⟨y, hy, hyi⟩; exact (hne' y hy hyi).elim
        · have hg : (listed.setIfInBounds e.i true).getD k true = listed.getD k true := by
            simp only [Array.getD_eq_getD_getElem?]
            rw [Array.getElem?_setIfInBounds_ne (Ne.symm hke)]
          rw [hg, hlisted k ok hok']
          constructor
          · rintro ⟨y, hy, rfl⟩
            refine ⟨y, ?_, rfl⟩
            simp at hy ⊢
            rcases hy with hy | rfl | hy
            · exact .inl hy
            · exact (hke rfl).elim
            · exact .inr hy
          · rintro ⟨y, hy, rfl⟩; exact ⟨y, hsub y hy, rfl⟩
      · intro k ok hok' hlk' p hp
        have hks : k < ops.size := by
          rcases Nat.lt_or_ge k ops.size with h | h
          · exact h
          · simp [Array.getElem?_eq_none h] at hok'
        have mono : ∀ p, listed.getD p false = true → (listed.setIfInBounds e.i true).getD p false = true := by
          intro p hp
          simp only [Array.getD_eq_getD_getElem?] at hp ⊢
          rw [Array.getElem?_setIfInBounds]
          split
          · split <;> simp
            rename_i h1 h2
            rw [← h1] at hp
            simp [Array.getElem?_eq_none (by omega : listed.size ≤ e.i)] at hp
          · exact hp
        refine mono p ?_
        by_cases hke : k = e.i
        · subst hke
          rw [ho] at hok'; cases hok'
          exact hps p hp
        · have hg : (listed.setIfInBounds e.i true).getD k true = listed.getD k true := by
            simp only [Array.getD_eq_getD_getElem?]
            rw [Array.getElem?_setIfInBounds_ne (Ne.symm hke)]
          rw [hg] at hlk'
          exact hclosed k ok hok' hlk' p hp
      · intro υ a' w'' H₃ h1 h2 h3 h4 h5
        refine hK υ a' w'' H₃ ⟨ha.keep.trans h1.keep, fun n p hn => ?_⟩ h2 (hO.trans h3) h4 (fun n => (hE n).trans (h5 n))
        rcases h1.dom n p hn with h | h
        · rcases ha.dom n p h with h | h
          · exact .inl h
          · exact .inr ⟨Nat.le_trans hloe h.1, Nat.lt_of_lt_of_le h.2 hhie⟩
        · exact .inr h
end
end Go.Proofs.YtakfoidmabendaaDoor.E
