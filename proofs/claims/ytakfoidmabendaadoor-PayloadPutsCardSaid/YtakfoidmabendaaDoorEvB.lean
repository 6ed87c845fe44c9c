/- The machine's first means: a cell read, a cell written, a block made, looked at, taken away; what is known ahead. -/
import Derived.Test.YtakfoidmabendaaDoorEvA
set_option linter.unusedVariables false
set_option linter.unusedSimpArgs false
namespace Go.Proofs.YtakfoidmabendaaDoor.E

def rd (n o : Nat) : Ev Value := fun H s => match cell H n o with
  | some v => some ⟨v, H, s, [.rd n o], []⟩
  | none => none
def wr (n o : Nat) (v : Value) : Ev Unit := fun H s => match H.get n with
  | some ⟨c, e, so, ro⟩ => match ro, Nat.blt o c.length with
    | false, true => setK c o v fun c' => Tr.putK (n + 1) H n (some ⟨c', e, so, ro⟩) fun H' => some ⟨(), H', s, [.look n, .wr n o], []⟩
    | _, _ => none
  | none => none
def spineK {α β : Type} : List α → (List α → β) → β
  | [], k => k []
  | a :: l, k => spineK l fun l => k (a :: l)
theorem spineK_eq {α β : Type} : ∀ (l : List α) (k : List α → β), spineK l k = k l := by
  intro l
  induction l with
  | nil => intro k; rfl
  | cons a l ih => intro k; simp [spineK, ih]
def new (B : Blk) : Ev Nat := fun H s => match s, B with
  | ⟨n, ora⟩, ⟨c, e, so, ro⟩ => spineK c fun c => Tr.putK (n + 1) H n (some ⟨c, e, so, ro⟩) fun H' => natK (n + 1) fun m => some ⟨n, H', ⟨m, ora⟩, [], []⟩
def look (n : Nat) : Ev (Nat × TypeId × Bool × Bool) := fun H s => match inf H n with
  | some i => some ⟨i, H, s, [.look n], []⟩
  | none => none
def kill (n : Nat) : Ev Blk := fun H s => match H.get n with
  | some ⟨c, e, so, ro⟩ => match ro with
    | false => Tr.putK (n + 1) H n none fun H' => some ⟨⟨c, e, so, ro⟩, H', s, [.kill n], []⟩
    | true => none
  | none => none
def ask : Ev Ora := fun H s => match s with
  | ⟨n, []⟩ => some ⟨.calc, H, ⟨n, []⟩, [], []⟩
  | ⟨n, (0, x) :: l⟩ => some ⟨x, H, ⟨n, l⟩, [], []⟩
  | ⟨n, (k + 1, x) :: l⟩ => some ⟨.calc, H, ⟨n, (k, x) :: l⟩, [], []⟩
def need (p : Prop) : Ev Unit := fun H s => some ⟨(), H, s, [], [p]⟩
def ofOpt {α : Type} : Option α → Ev α
  | some a => Ev.pure a
  | none => Ev.fail

theorem cell_put (H : Tr) (n : Nat) (x : Option Blk) (m o : Nat) : cell (Tr.put (n + 1) H n x) m o = if m = n then (match x with | some B => B.cells[o]? | none => none) else cell H m o := by
  unfold cell
  rw [Tr.get_put _ _ _ _ _ (Nat.lt_succ_self n)]
  cases x <;> by_cases e : m = n <;> simp [e]
theorem inf_put (H : Tr) (n : Nat) (x : Option Blk) (m : Nat) : inf (Tr.put (n + 1) H n x) m = if m = n then (match x with | some B => some (B.cells.length, B.elem, B.soft, B.ro) | none => none) else inf H m := by
  unfold inf
  rw [Tr.get_put _ _ _ _ _ (Nat.lt_succ_self n)]
  cases x <;> by_cases e : m = n <;> simp [e]
theorem like_nil (H K : Tr) (a : Nat) : Like H K a a [] := ⟨fun n o hx => by simp [Wr, Fs] at hx; omega, fun n hx => by simp [Kl, Fs] at hx; omega⟩
theorem cell_get {H : Tr} {n : Nat} {B : Blk} (h : H.get n = some B) (o : Nat) : cell H n o = B.cells[o]? := by simp [cell, h]
theorem inf_get {H : Tr} {n : Nat} {B : Blk} (h : H.get n = some B) : inf H n = some (B.cells.length, B.elem, B.soft, B.ro) := by simp [inf, h]
theorem inf_none {H : Tr} {n : Nat} : inf H n = none ↔ H.get n = none := by unfold inf; cases H.get n <;> simp

/-- What leaves the memory as it is. -/
theorem framed_quiet {α : Type} {e : Ev α} (h : ∀ H s r, e H s = some r → r.hp = H ∧ r.sup.name = s.name ∧ (∀ n o, ¬ Wr r.log n o) ∧ (∀ n, ¬ Kl r.log n) ∧
    ∀ K, (∀ ev ∈ r.log, Ag H K ev) → e K s = some { r with hp := K }) : Framed e := by
  intro H s r hr
  obtain ⟨h1, h2, h3, h3', h4⟩ := h H s r hr
  refine ⟨by omega, fun _ => ⟨h1 ▸ Chg.refl .., fun K hK _ => ⟨K, h4 K hK, .refl .., ⟨?_, ?_⟩⟩⟩⟩
  · intro n o hx
    rcases hx with hx | hx
    · exact (h3 n o hx).elim
    · exact absurd hx (by simp only [Fs]; omega)
  · intro n hx
    rcases hx with hx | hx
    · exact (h3' n hx).elim
    · exact absurd hx (by simp only [Fs]; omega)

theorem framed_rd (n o : Nat) : Framed (rd n o) := framed_quiet fun H s r h => by
  unfold rd at h
  cases hc : cell H n o with
  | none => simp [hc] at h
  | some v =>
    simp only [hc, Option.some.injEq] at h
    subst h
    refine ⟨rfl, rfl, by simp [Wr], by simp [Kl], fun K hK => ?_⟩
    have := hK (.rd n o) (by simp)
    simp only [Ag] at this
    simp [rd, ← this, hc]
theorem framed_look (n : Nat) : Framed (look n) := framed_quiet fun H s r h => by
  unfold look at h
  cases hc : inf H n with
  | none => simp [hc] at h
  | some v =>
    simp only [hc, Option.some.injEq] at h
    subst h
    refine ⟨rfl, rfl, by simp [Wr], by simp [Kl], fun K hK => ?_⟩
    have := hK (.look n) (by simp)
    simp only [Ag] at this
    simp [look, ← this, hc]
theorem framed_ask : Framed ask := framed_quiet fun H s r h => by
  obtain ⟨n, l⟩ := s
  unfold ask at h
  cases l with
  | nil => simp only [Option.some.injEq] at h; subst h; exact ⟨rfl, rfl, by simp [Wr], by simp [Kl], fun K _ => rfl⟩
  | cons x l =>
    obtain ⟨k, x⟩ := x
    cases k <;> (simp only [Option.some.injEq] at h; subst h; exact ⟨rfl, rfl, by simp [Wr], by simp [Kl], fun K _ => rfl⟩)
theorem framed_need (p : Prop) : Framed (need p) := framed_quiet fun H s r h => by
  unfold need at h
  simp only [Option.some.injEq] at h; subst h; exact ⟨rfl, rfl, by simp [Wr], by simp [Kl], fun K _ => rfl⟩
theorem framed_ofOpt {α : Type} (x : Option α) : Framed (ofOpt x) := match x with | none => framed_fail | some _ => framed_pure _

theorem wr_eq {H : Tr} {s : Sup} {n o : Nat} {v : Value} {r : Res Unit} (h : wr n o v H s = some r) :
    ∃ B, H.get n = some B ∧ B.ro = false ∧ o < B.cells.length ∧ r = ⟨(), Tr.put (n + 1) H n (some { B with cells := B.cells.set o v }), s, [.look n, .wr n o], []⟩ := by
  unfold wr at h
  cases hB : H.get n with
  | none => simp [hB] at h
  | some B =>
    obtain ⟨c, e, so, ro⟩ := B
    cases ro with
    | true => simp [hB] at h
    | false =>
      cases hb : Nat.blt o c.length with
      | false => simp [hB, hb] at h
      | true =>
        simp only [hB, hb, setK_eq, Tr.putK_eq, Option.some.injEq] at h
        exact ⟨_, rfl, rfl, by simpa [Nat.blt_eq] using hb, h.symm⟩
theorem wr_mk {H : Tr} (s : Sup) {n o : Nat} (v : Value) {B : Blk} (hB : H.get n = some B) (hr : B.ro = false) (ho : o < B.cells.length) :
    wr n o v H s = some ⟨(), Tr.put (n + 1) H n (some { B with cells := B.cells.set o v }), s, [.look n, .wr n o], []⟩ := by
  obtain ⟨c, e, so, ro⟩ := B
  simp only at hr ho
  subst hr
  have hb : Nat.blt o c.length = true := by simpa [Nat.blt_eq] using ho
  simp [wr, hB, hb, setK_eq, Tr.putK_eq]
theorem framed_wr (n o : Nat) (v : Value) : Framed (wr n o v) := by
  intro H s r h
  obtain ⟨B, hB, hro, ho, rfl⟩ := wr_eq h
  have chg : ∀ (H : Tr) (B : Blk), H.get n = some B → Chg H (Tr.put (n + 1) H n (some { B with cells := B.cells.set o v })) s.name s.name [.look n, .wr n o] := by
    intro H B hB
    refine ⟨fun m q hw _ => ?_, fun m _ _ => ?_, fun m _ hm => ?_⟩
    · rw [cell_put]
      by_cases e : m = n
      · subst e
        rw [if_pos rfl, cell_get hB]
        have : o ≠ q := fun e => hw (.inl (by simp [e]))
        simp [List.getElem?_set_ne this]
      · rw [if_neg e]
    · rw [inf_put]
      by_cases e : m = n
      · subst e; rw [if_pos rfl, inf_get hB]; simp
      · rw [if_neg e]
    · rw [Tr.get_put _ _ _ _ _ (Nat.lt_succ_self n)]
      by_cases e : m = n
      · subst e; simp [hB] at hm
      · rw [if_neg e]; exact hm
  refine ⟨Nat.le_refl _, fun _ => ⟨chg H B hB, fun K hK _ => ?_⟩⟩
  have h1 := hK (.look n) (by simp)
  have h2 := hK (.wr n o) (by simp)
  simp only [Ag] at h1 h2
  rw [inf_get hB] at h1
  cases hKn : K.get n with
  | none => simp [inf, hKn] at h1
  | some C =>
    rw [inf_get hKn] at h1
    simp only [Option.some.injEq, Prod.mk.injEq] at h1
    obtain ⟨q1, q2, q3, q4⟩ := h1
    refine ⟨_, wr_mk s v hKn (q4 ▸ hro) (by omega), chg K C hKn, ⟨fun m q hx => ?_, fun m hx => ?_⟩⟩
    · rcases hx with hx | hx
      · simp [Wr] at hx
        obtain ⟨rfl, rfl⟩ := hx
        rw [cell_put, cell_put, if_pos rfl, if_pos rfl]
        simp [List.getElem?_set, ho, q1 ▸ ho]
      · exact absurd hx (by simp only [Fs]; omega)
    · rcases hx with hx | hx
      · simp [Kl] at hx
      · exact absurd hx (by simp only [Fs]; omega)

theorem new_eq (B : Blk) (H : Tr) (s : Sup) : new B H s = some ⟨s.name, Tr.put (s.name + 1) H s.name (some B), ⟨s.name + 1, s.ora⟩, [], []⟩ := by
  obtain ⟨n, l⟩ := s
  simp [new, natK_eq, Tr.putK_eq, spineK_eq]
theorem framed_new (B : Blk) : Framed (new B) := by
  intro H s r h
  rw [new_eq, Option.some.injEq] at h
  subst h
  have chg : ∀ H : Tr, Chg H (Tr.put (s.name + 1) H s.name (some B)) s.name (s.name + 1) [] := by
    intro H
    refine ⟨fun m q _ hf => ?_, fun m _ hf => ?_, fun m hf hm => ?_⟩
    all_goals have e : m ≠ s.name := fun e => hf ⟨by omega, by omega⟩
    · rw [cell_put, if_neg e]
    · rw [inf_put, if_neg e]
    · rw [Tr.get_put _ _ _ _ _ (Nat.lt_succ_self _), if_neg e]; exact hm
  refine ⟨Nat.le_succ _, fun _ => ⟨chg H, fun K _ _ => ⟨_, new_eq B K s, chg K, ⟨fun m q hx => ?_, fun m hx => ?_⟩⟩⟩⟩
  · rcases hx with hx | hx
    · simp [Wr] at hx
    · have e : m = s.name := by simp only [Fs] at hx; omega
      subst e; rw [cell_put, cell_put, if_pos rfl, if_pos rfl]
  · rcases hx with hx | hx
    · simp [Kl] at hx
    · have e : m = s.name := by simp only [Fs] at hx; omega
      subst e; rw [inf_put, inf_put, if_pos rfl, if_pos rfl]

theorem kill_eq {H : Tr} {s : Sup} {n : Nat} {r : Res Blk} (h : kill n H s = some r) :
    ∃ B, H.get n = some B ∧ B.ro = false ∧ r = ⟨B, Tr.put (n + 1) H n none, s, [.kill n], []⟩ := by
  unfold kill at h
  cases hB : H.get n with
  | none => simp [hB] at h
  | some B =>
    obtain ⟨c, e, so, ro⟩ := B
    cases ro with
    | true => simp [hB] at h
    | false => simp only [hB, Tr.putK_eq, Option.some.injEq] at h; exact ⟨_, rfl, rfl, h.symm⟩
theorem framed_kill (n : Nat) : Framed (kill n) := by
  intro H s r h
  obtain ⟨B, hB, hro, rfl⟩ := kill_eq h
  have chg : ∀ H : Tr, Chg H (Tr.put (n + 1) H n none) s.name s.name [.kill n] := by
    intro H
    refine ⟨fun m q hw _ => ?_, fun m hw _ => ?_, fun m _ hm => ?_⟩
    · have e : m ≠ n := fun e => hw (.inr (by simp [e]))
      rw [cell_put, if_neg e]
    · have e : m ≠ n := fun e => hw (by simp [Kl, e])
      rw [inf_put, if_neg e]
    · rw [Tr.get_put _ _ _ _ _ (Nat.lt_succ_self _)]
      split
      · rfl
      · exact hm
  refine ⟨Nat.le_refl _, fun _ => ⟨chg H, fun K hK _ => ?_⟩⟩
  have h1 := hK (.kill n) (by simp)
  simp only [Ag] at h1
  rw [hB] at h1
  obtain ⟨c, e, so, ro⟩ := B
  simp only at hro
  subst hro
  refine ⟨_, by simp only [kill, ← h1, Tr.putK_eq], chg K, ⟨fun m q hx => ?_, fun m hx => ?_⟩⟩
  · rcases hx with hx | hx
    · have e : m = n := by simpa [Wr] using hx
      subst e; rw [cell_put, cell_put, if_pos rfl, if_pos rfl]
    · exact absurd hx (by simp only [Fs]; omega)
  · rcases hx with hx | hx
    · have e : m = n := by simpa [Kl] using hx
      subst e; rw [inf_put, inf_put, if_pos rfl, if_pos rfl]
    · exact absurd hx (by simp only [Fs]; omega)

def rds (n : Nat) : Nat → Nat → Ev (List Value)
  | _, 0 => .pure []
  | o, k + 1 => (rd n o).bind fun v => (rds n (o + 1) k).bind fun l => .pure (v :: l)
def wrs (n : Nat) : Nat → List Value → Ev Unit
  | _, [] => .pure ()
  | o, v :: l => (wr n o v).bind fun _ => wrs n (o + 1) l
theorem framed_rds (n : Nat) : ∀ (k o : Nat), Framed (rds n o k)
  | 0, o => framed_pure _
  | k + 1, o => framed_bind (framed_rd n o) fun v => framed_bind (framed_rds n k (o + 1)) fun l => framed_pure _
theorem framed_wrs (n : Nat) : ∀ (l : List Value) (o : Nat), Framed (wrs n o l)
  | [], o => framed_pure _
  | v :: l, o => framed_bind (framed_wr n o v) fun _ => framed_wrs n l (o + 1)
end Go.Proofs.YtakfoidmabendaaDoor.E
