/- Reads, writes, new blocks: the machine's and the model's. -/
import Derived.Test.YtakfoidmabendaaDoorEvC
set_option linter.unusedVariables false
set_option linter.unusedSimpArgs false
namespace Go.Proofs.YtakfoidmabendaaDoor.E
section
variable {P : Program} {Fr : Prot} {G : Nat} {σ : Nm}

theorem add_none (b o i : Nat) : Addr.add ⟨b, o, none⟩ i = ⟨b, o + i, none⟩ := by
  unfold Addr.add; split
  · subst_vars; rfl
  · rfl

theorem cell_some {H : Tr} {n o : Nat} {v : Value} (h : cell H n o = some v) : ∃ B, H.get n = some B ∧ B.cells[o]? = some v := by
  unfold cell at h
  cases hB : H.get n with
  | none => simp [hB] at h
  | some B => exact ⟨B, rfl, by simpa [hB] using h⟩

theorem sim_rd {n o : Nat} {p : Place} (hσ : σ n = some p) : Sim P Fr G σ (rd n o) VR (runS P (load ⟨p.b, p.base + o, none⟩)) := by
  intro H s r w hr hn hR hf hG
  unfold rd at hr
  cases hc : cell H n o with
  | none => simp [hc] at hr
  | some v =>
    simp only [hc, Option.some.injEq] at hr
    subst hr
    obtain ⟨B, hB, hv⟩ := cell_some hc
    obtain ⟨q, c, fz, hq, hw, hz, hl, hs, hcells, hro⟩ := hR.blk n B hB
    rw [hσ] at hq; cases hq
    obtain ⟨x, hx, hvx⟩ := hcells o v hv
    have : w.cell? ⟨p.b, p.base + o, none⟩ = some x := by simp [World.cell?, hw, hx]
    exact ⟨x, w, by simp [load, Sem.run, this], σ, .refl .., hR, .refl .., hvx⟩

theorem sim_rds {n : Nat} {p : Place} (hσ : σ n = some p) : ∀ (k o i : Nat) (off : Nat) (acc : Array Value), p.base + o = off + i →
    Sim P Fr G σ (rds n o k) (fun τ a (y : Array Value) => ∃ l, y = acc ++ l.toArray ∧ LR τ a l) (runS P (loadCellsFrom ⟨p.b, off, none⟩ i k acc)) := by
  intro k
  induction k generalizing σ with
  | zero => intro o i off acc h; exact sim_pure ⟨[], by simp, LR.nil _⟩
  | succ k ih =>
    intro o i off acc h
    unfold rds loadCellsFrom
    refine sim_bind (framed_rd _ _).mono (fun a => (framed_bind (framed_rds _ _ _) fun _ => framed_pure _).mono) (A := VR) ?_ ?_
    · rw [add_none, ← h]; exact sim_rd hσ
    · intro τ a y hs hA
      have := ih (hs _ _ hσ) (o + 1) (i + 1) off (acc.push y) (by omega)
      intro H s r w hr hn hR hf hG
      unfold Ev.bind at hr
      cases h1 : rds n (o + 1) k H s with
      | none => simp [h1] at hr
      | some q =>
        obtain ⟨l, H₁, s₁, lg, p₁⟩ := q
        simp only [h1, Ev.pure, Option.some.injEq] at hr
        subst hr
        obtain ⟨z, w', e, υ, ha, hR', ho, l', hl, hLR⟩ := this H s _ w h1 (all_app hn).1 hR hf hG
        exact ⟨z, w', e, υ, ha, hR', ho, y :: l', by rw [hl]; simp, LR.cons (hA.sub ha.keep) hLR⟩

theorem run_store {w : World} {a : Addr} {v x : Value} (hf : flat v = true) (hc : w.cell? a = some x) (hz : w.frozen? a = false) :
    (store a v).run P w = .ok () (w.setCell a v) := by
  unfold store
  cases v <;> simp_all [Sem.run, flat]

theorem setCell_get {w : World} {b off : Nat} {v : Value} {c : Array Value} {e : TypeId} {fz : Nat × Nat} (h : w.heap[b]? = some (.cells c e fz)) (k : Nat) :
    (w.setCell ⟨b, off, none⟩ v).heap[k]? = if k = b then some (.cells (c.setIfInBounds off v) e fz) else w.heap[k]? := by
  simp only [World.setCell, Array.getElem?_modify]
  by_cases e : b = k
  · subst e; simp [h]
  · simp [e, Ne.symm e, eq_comm]

/-- A cell written on both sides. -/
theorem rel_wr {H : Tr} {w : World} (hR : Rel P Fr G σ H w) {n o : Nat} {v x : Value} {B : Blk} {p : Place} (hσ : σ n = some p) (hB : H.get n = some B) (hro : B.ro = false)
    (ho : o < B.cells.length) (hv : VR σ v x) :
    Rel P Fr G σ (Tr.put (n + 1) H n (some { B with cells := B.cells.set o v })) (w.setCell ⟨p.b, p.base + o, none⟩ x) ∧ Out Fr w (w.setCell ⟨p.b, p.base + o, none⟩ x) := by
  obtain ⟨q, c, fz, hq, hw, hz, hl, hs, hcells, hr⟩ := hR.blk n B hB
  rw [hσ] at hq; cases hq
  have hg := @setCell_get w p.b (p.base + o) x c B.elem fz hw
  have hsize : (w.setCell ⟨p.b, p.base + o, none⟩ x).heap.size = w.heap.size := by simp [World.setCell]
  have hget : ∀ m, (Tr.put (n + 1) H n (some { B with cells := B.cells.set o v })).get m = if m = n then some { B with cells := B.cells.set o v } else H.get m :=
    fun m => Tr.get_put _ _ _ _ _ (Nat.lt_succ_self n)
  refine ⟨⟨hR.glob, fun m C hC => ?_, fun m k C D pm pk hC hD hne hm hk hb => ?_, fun b hb => by rw [hg, if_neg (fun e : b = p.b => hr hro (by rw [← e]; exact hb))]; exact hR.prot b hb⟩, rfl, rfl, rfl, by rw [hsize]; exact Nat.le_refl _, fun b hb => ?_⟩
  · rw [hget] at hC
    by_cases e : m = n
    · subst e
      rw [if_pos rfl] at hC; cases hC
      refine ⟨p, _, fz, hσ, by rw [hg, if_pos rfl], by simpa using hz, by simpa using hl, fun h => by simpa using hs h, fun q u hu => ?_, hr⟩
      simp only [List.getElem?_set] at hu
      by_cases eo : o = q
      · subst eo
        simp [ho] at hu; subst hu
        exact ⟨x, by simp [Array.getElem?_setIfInBounds]; omega, hv⟩
      · rw [if_neg eo] at hu
        obtain ⟨y, hy, hyv⟩ := hcells q u hu
        exact ⟨y, by rw [Array.getElem?_setIfInBounds_ne (by omega)]; exact hy, hyv⟩
    · rw [if_neg e] at hC
      obtain ⟨q, c', fz', hq, hw', hz', hl', hs', hcells', hr'⟩ := hR.blk m C hC
      by_cases eb : q.b = p.b
      · rw [eb, hw] at hw'
        obtain ⟨rfl, ee, rfl⟩ : c = c' ∧ B.elem = C.elem ∧ fz = fz' := by simpa using hw'
        obtain ⟨_, _, hap⟩ := hR.apart m n C B q p hC hB e hq hσ eb
        refine ⟨q, _, fz, hq, by rw [eb, hg, if_pos rfl, ee], by simpa using hz, by simpa using hl', fun h => by simpa using hs' h, fun j u hu => ?_, hr'⟩
        obtain ⟨y, hy, hyv⟩ := hcells' j u hu
        have hj : j < C.cells.length := by
          rcases Nat.lt_or_ge j C.cells.length with hx | hx
          · exact hx
          · simp [List.getElem?_eq_none hx] at hu
        exact ⟨y, by rw [Array.getElem?_setIfInBounds_ne (by omega)]; exact hy, hyv⟩
      · exact ⟨q, c', fz', hq, by rw [hg, if_neg eb]; exact hw', hz', hl', hs', hcells', hr'⟩
  · rw [hget] at hC hD
    have key : ∀ {m : Nat} {C : Blk}, (if m = n then some { B with cells := B.cells.set o v } else H.get m) = some C → ∃ C', H.get m = some C' ∧ C'.cells.length = C.cells.length ∧ C'.soft = C.soft := by
      intro m C h
      by_cases e : m = n
      · rw [if_pos e] at h; cases h; exact ⟨B, e ▸ hB, by simp, rfl⟩
      · rw [if_neg e] at h; exact ⟨C, h, rfl, rfl⟩
    obtain ⟨C', hC', l1, s1⟩ := key hC
    obtain ⟨D', hD', l2, s2⟩ := key hD
    rw [← s1, ← s2, ← l1, ← l2]
    exact hR.apart m k C' D' pm pk hC' hD' hne hm hk hb
  · rw [hg, if_neg (fun e : b = p.b => hr hro (by rw [← e]; exact hb))]

theorem sim_wr {n o : Nat} {p : Place} {v x : Value} (hσ : σ n = some p) (hv : VR σ v x) (hfl : flat v = true) :
    Sim P Fr G σ (wr n o v) (fun _ _ _ => True) (runS P (store ⟨p.b, p.base + o, none⟩ x)) := by
  intro H s r w hr hn hR hf hG
  obtain ⟨B, hB, hro, ho, rfl⟩ := wr_eq hr
  obtain ⟨q, c, fz, hq, hw, hz, hl, hs, hcells, hrr⟩ := hR.blk n B hB
  rw [hσ] at hq; cases hq
  have hlt : p.base + o < c.size := by omega
  have hc : w.cell? ⟨p.b, p.base + o, none⟩ = some c[p.base + o] := by simp [World.cell?, hw, hlt]
  have hfz : w.frozen? ⟨p.b, p.base + o, none⟩ = false := by
    have := hz (p.base + o) hlt
    simp only [World.frozen?, hw]
    simp only [not_and] at this
    simp only [Bool.and_eq_false_iff, decide_eq_false_iff_not]
    by_cases h1 : fz.1 ≤ p.base + o
    · exact .inr (this h1)
    · exact .inl h1
  obtain ⟨hR', hO⟩ := rel_wr hR hσ hB hro ho hv
  exact ⟨(), _, run_store (by rw [hv.flat]; exact hfl) hc hfz, σ, .refl .., hR', hO, trivial⟩

theorem sim_wrs {n : Nat} {p : Place} (hσ : σ n = some p) : ∀ (l l' : List Value) (o i off : Nat), LR σ l l' → (∀ v ∈ l, flat v = true) → p.base + o = off + i →
    Sim P Fr G σ (wrs n o l) (fun _ _ _ => True) (runS P (storeCells ⟨p.b, off, none⟩ l' i)) := by
  intro l
  induction l generalizing σ with
  | nil =>
    intro l' o i off h hfl he
    cases l' with
    | nil => unfold storeCells; exact sim_pure trivial
    | cons a l' => simp [LR] at h
  | cons v l ih =>
    intro l' o i off h hfl he
    cases l' with
    | nil => simp [LR] at h
    | cons x l' =>
      unfold wrs storeCells
      refine sim_bind (framed_wr _ _ _).mono (fun a => (framed_wrs _ _ _).mono) (A := fun _ _ _ => True) ?_ ?_
      · rw [add_none, ← he]
        exact sim_wr hσ (h.2 0 v x (by simp) (by simp)) (hfl v (by simp))
      · intro τ a y hs _
        refine ih (hs _ _ hσ) l' (o + 1) (i + 1) off ?_ (fun u hu => hfl u (by simp [hu])) (by omega)
        exact ⟨by have := h.1; simpa using this, fun j u z hu hz => (h.2 (j + 1) u z (by simpa using hu) (by simpa using hz)).sub hs⟩

/-- A new block on both sides. -/
theorem rel_new {H : Tr} {w : World} (hR : Rel P Fr G σ H w) {n : Nat} (hn : σ n = none) (hG : G ≤ n) {B : Blk} {c : Array Value} (cap : Nat) (fz : Nat × Nat)
    (hz : ∀ o, o < c.size → ¬ (fz.1 ≤ o ∧ o < fz.2)) (hl : B.cells.length ≤ c.size) (hs : B.soft = true → c.size = cap * P.cellsOf B.elem)
    (hc : ∀ (o : Nat) (v : Value), B.cells[o]? = some v → ∃ r, c[o]? = some r ∧ VR σ v r) {w' : World} (hh : w'.heap = w.heap.push (.cells c B.elem fz)) (ho : w'.os = w.os) (ht : w'.tape = w.tape) (hp : w'.output = w.output) :
    ∃ τ, Aft σ τ n (n + 1) ∧ τ n = some ⟨w.heap.size, 0, cap⟩ ∧ Rel P Fr G τ (Tr.put (n + 1) H n (some B)) w' ∧ Out Fr w w' := by
  let τ : Nm := fun m => if m = n then some ⟨w.heap.size, 0, cap⟩ else σ m
  have hsub : Sub σ τ := fun m p h => by
    by_cases e : m = n
    · subst e; rw [hn] at h; cases h
    · simp only [τ, if_neg e]; exact h
  have hτ : ∀ m, m ≠ n → τ m = σ m := fun m e => by simp only [τ, if_neg e]
  have hτn : τ n = some ⟨w.heap.size, 0, cap⟩ := by simp only [τ, if_pos rfl]
  have hget : ∀ m, (Tr.put (n + 1) H n (some B)).get m = if m = n then some B else H.get m := fun m => Tr.get_put _ _ _ _ _ (Nat.lt_succ_self n)
  have hold : ∀ k, k < w.heap.size → w'.heap[k]? = w.heap[k]? := fun k hk => by rw [hh, Array.getElem?_push, if_neg (by omega)]
  have hblk : ∀ m C, H.get m = some C → ∃ p, σ m = some p ∧ p.b < w.heap.size := fun m C hC => by
    obtain ⟨p, c, fz, hp, hw, _⟩ := hR.blk m C hC
    refine ⟨p, hp, ?_⟩
    rcases Nat.lt_or_ge p.b w.heap.size with h' | h'
    · exact h'
    · simp [Array.getElem?_eq_none h'] at hw
  refine ⟨τ, ⟨hsub, fun m p h => ?_⟩, hτn, ⟨fun g hg => ?_, fun m C hC => ?_, fun m k C D pm pk hC hD hne hm hk hb => ?_, fun b hb => ?_⟩, ho, ht, hp, by rw [hh]; simp, fun b hb => hold b (hR.lt b hb)⟩
  · by_cases e : m = n
    · exact .inr ⟨by omega, by omega⟩
    · rw [hτ m e] at h; exact .inl h
  · rw [hτ g (by omega)]; exact hR.glob g hg
  · rw [hget] at hC
    by_cases e : m = n
    · subst e
      rw [if_pos rfl] at hC; cases hC
      refine ⟨_, c, fz, hτn, by rw [hh]; simp, hz, by simpa using hl, fun h => by simpa using hs h, fun o v hv => ?_, fun _ hb => absurd (hR.lt _ hb) (Nat.lt_irrefl _)⟩
      obtain ⟨r, hr, hvr⟩ := hc o v hv
      exact ⟨r, by simpa using hr, hvr.sub hsub⟩
    · rw [if_neg e] at hC
      obtain ⟨q, c', fz', hq, hw', hz', hl', hs', hcells', hr'⟩ := hR.blk m C hC
      obtain ⟨q', hq', hlt⟩ := hblk m C hC
      rw [hq] at hq'; cases hq'
      refine ⟨q, c', fz', by rw [hτ m e]; exact hq, by rw [hold _ hlt]; exact hw', hz', hl', hs', fun o v hv => ?_, hr'⟩
      obtain ⟨r, hr, hvr⟩ := hcells' o v hv
      exact ⟨r, hr, hvr.sub hsub⟩
  · rw [hget] at hC hD
    by_cases em : m = n
    · subst em
      have ek : k ≠ m := Ne.symm hne
      rw [if_neg ek] at hD
      rw [hτ k ek] at hk
      obtain ⟨q, hq, hlt⟩ := hblk k D hD
      rw [hk] at hq; cases hq
      rw [hτn] at hm; cases hm
      simp only at hb; omega
    · rw [if_neg em] at hC
      rw [hτ m em] at hm
      by_cases ek : k = n
      · subst ek
        obtain ⟨q, hq, hlt⟩ := hblk m C hC
        rw [hm] at hq; cases hq
        rw [hτn] at hk; cases hk
        simp only at hb; omega
      · rw [if_neg ek] at hD
        rw [hτ k ek] at hk
        exact hR.apart m k C D pm pk hC hD hne hm hk hb
  · rw [hold b (hR.lt b hb)]; exact hR.prot b hb

theorem sim_new {B : Blk} {c : Array Value} (hs : B.soft = false) (hc : LR σ B.cells c.toList) :
    Sim P Fr G σ (new B) (fun τ n (a : Addr) => ∃ b cap, τ n = some ⟨b, 0, cap⟩ ∧ a = ⟨b, 0, none⟩) (runS P (newRow B.elem c)) := by
  intro H s r w hr hn hR hf hG
  rw [new_eq, Option.some.injEq] at hr
  subst hr
  obtain ⟨τ, h1, h2, h3, h4⟩ := rel_new (w' := { w with heap := w.heap.push (.cells c B.elem) }) hR (hf s.name ⟨Nat.le_refl _, Nat.lt_succ_self _⟩) hG (B := B) (c := c) 0 (0, 0) (by intro o _; simp) (by have := hc.1; simp at this; omega) (by simp [hs])
    (fun o v hv => by obtain ⟨r, hr, x⟩ := hc.get hv; exact ⟨r, by simpa using hr, x⟩) rfl rfl rfl rfl
  exact ⟨⟨w.heap.size, 0, none⟩, _, by simp [newRow, newObj, Sem.run, pure, bind, Sem.bind], τ, h1, h3, h4, _, _, h2, rfl⟩
end
end Go.Proofs.YtakfoidmabendaaDoor.E
