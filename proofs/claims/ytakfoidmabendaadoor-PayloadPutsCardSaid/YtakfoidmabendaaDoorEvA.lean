/- A machine that reckons beside the model: its memory (names for blocks), what it does to it, and that what it does hangs on what it looks at alone. -/
import Derived.Orders
set_option linter.unusedVariables false
set_option linter.unusedSimpArgs false
namespace Go.Proofs.YtakfoidmabendaaDoor.E

/-- A block by name: what is known of its cells; soft: the real one may be longer; ro: it is not written to. -/
structure Blk where
  cells : List Value
  elem : TypeId
  soft : Bool
  ro : Bool

/-- Blocks by their names. -/
inductive Tr where
  | leaf
  | node (v : Option Blk) (l r : Tr)

def Tr.get : Tr → Nat → Option Blk
  | .leaf, _ => none
  | .node v l r, n => match n with
    | 0 => v
    | m + 1 => match m % 2 with
      | 0 => l.get (m / 2)
      | _ + 1 => r.get (m / 2)

def Tr.put : Nat → Tr → Nat → Option Blk → Tr
  | 0, t, _, _ => t
  | f + 1, t, n, x => match t with
    | .leaf => match n with
      | 0 => .node x .leaf .leaf
      | m + 1 => match m % 2 with
        | 0 => .node none (Tr.put f .leaf (m / 2) x) .leaf
        | _ + 1 => .node none .leaf (Tr.put f .leaf (m / 2) x)
    | .node v l r => match n with
      | 0 => .node x l r
      | m + 1 => match m % 2 with
        | 0 => .node v (Tr.put f l (m / 2) x) r
        | _ + 1 => .node v l (Tr.put f r (m / 2) x)

theorem Tr.get_leaf (n : Nat) : Tr.leaf.get n = none := rfl
theorem Tr.get_put : ∀ (f : Nat) (t : Tr) (n k : Nat) (x : Option Blk), n < f → (Tr.put f t n x).get k = if k = n then x else t.get k := by
  intro f
  induction f with
  | zero => intro t n k x h; omega
  | succ f ih =>
    intro t n k x h
    cases t with
    | leaf =>
      cases n with
      | zero => cases k <;> simp [Tr.put, Tr.get]; split <;> rfl
      | succ m =>
        have hm : m / 2 < f := by omega
        simp only [Tr.put]
        cases he : m % 2 with
        | zero =>
          cases k with
          | zero => simp [Tr.get]
          | succ j =>
            simp only [Tr.get]
            cases hj : j % 2 with
            | zero =>
              simp only []
              rw [ih _ _ _ _ hm]
              by_cases e : j = m
              · subst e; simp
              · rw [if_neg (by omega), if_neg (by omega)]; rfl
            | succ q => rw [if_neg (by omega)]
        | succ p =>
          cases k with
          | zero => simp [Tr.get]
          | succ j =>
            simp only [Tr.get]
            cases hj : j % 2 with
            | zero => rw [if_neg (by omega)]
            | succ q =>
              simp only []
              rw [ih _ _ _ _ hm]
              by_cases e : j = m
              · subst e; simp
              · rw [if_neg (by omega), if_neg (by omega)]; rfl
    | node v l r =>
      cases n with
      | zero => cases k <;> simp [Tr.put, Tr.get]
      | succ m =>
        have hm : m / 2 < f := by omega
        simp only [Tr.put]
        cases he : m % 2 with
        | zero =>
          cases k with
          | zero => simp [Tr.get]
          | succ j =>
            simp only [Tr.get]
            cases hj : j % 2 with
            | zero =>
              simp only []
              rw [ih _ _ _ _ hm]
              by_cases e : j = m
              · subst e; simp
              · rw [if_neg (by omega), if_neg (by omega)]
            | succ q => rw [if_neg (by omega)]
        | succ p =>
          cases k with
          | zero => simp [Tr.get]
          | succ j =>
            simp only [Tr.get]
            cases hj : j % 2 with
            | zero => rw [if_neg (by omega)]
            | succ q =>
              simp only []
              rw [ih _ _ _ _ hm]
              by_cases e : j = m
              · subst e; simp
              · rw [if_neg (by omega), if_neg (by omega)]

/-- 'put', each node made as it is come by. -/
def Tr.putK {β : Type} : Nat → Tr → Nat → Option Blk → (Tr → β) → β
  | 0, t, _, _, k => k t
  | f + 1, t, n, x, k => match t with
    | .leaf => match n with
      | 0 => k (.node x .leaf .leaf)
      | m + 1 => match m % 2 with
        | 0 => Tr.putK f .leaf (m / 2) x fun l => k (.node none l .leaf)
        | _ + 1 => Tr.putK f .leaf (m / 2) x fun r => k (.node none .leaf r)
    | .node v l r => match n with
      | 0 => k (.node x l r)
      | m + 1 => match m % 2 with
        | 0 => Tr.putK f l (m / 2) x fun l => k (.node v l r)
        | _ + 1 => Tr.putK f r (m / 2) x fun r => k (.node v l r)
theorem Tr.putK_eq {β : Type} : ∀ (f : Nat) (t : Tr) (n : Nat) (x : Option Blk) (k : Tr → β), Tr.putK f t n x k = k (Tr.put f t n x) := by
  intro f
  induction f with
  | zero => intros; rfl
  | succ f ih =>
    intro t n x k
    cases t with
    | leaf =>
      cases n with
      | zero => rfl
      | succ m => simp only [Tr.putK, Tr.put]; cases m % 2 <;> simp only [ih]
    | node v l r =>
      cases n with
      | zero => rfl
      | succ m => simp only [Tr.putK, Tr.put]; cases m % 2 <;> simp only [ih]

/-- 'l' with one place laid anew, each cell made as it is come by. -/
def setK {α β : Type} : List α → Nat → α → (List α → β) → β
  | [], _, _, k => k []
  | a :: l, n, v, k => match n with
    | 0 => k (v :: l)
    | m + 1 => setK l m v fun l' => k (a :: l')
theorem setK_eq {α β : Type} : ∀ (l : List α) (n : Nat) (v : α) (k : List α → β), setK l n v k = k (l.set n v) := by
  intro l
  induction l with
  | nil => intros; rfl
  | cons a l ih => intro n v k; cases n with
    | zero => rfl
    | succ m => simp [setK, ih]

/-- A number worked out. -/
def natK {β : Type} (n : Nat) (k : Nat → β) : β := match n with
  | 0 => k 0
  | m + 1 => k (Nat.succ m)
theorem natK_eq {β : Type} (n : Nat) (k : Nat → β) : natK n k = k n := by cases n <;> rfl

/-- What is looked at, and what is changed. -/
inductive Evt where
  | rd (n o : Nat)
  | wr (n o : Nat)
  | look (n : Nat)
  | kill (n : Nat)

/-- What is known ahead: an operation's answer, a test's. -/
inductive Ora where
  | calc
  | val (v : Value)
  | bit (b : Bool)

structure Sup where
  name : Nat
  ora : List (Nat × Ora)

structure Res (α : Type) where
  val : α
  hp : Tr
  sup : Sup
  log : List Evt
  need : List Prop

/-- All that is needed. -/
def All (l : List Prop) : Prop := ∀ p ∈ l, p
theorem all_nil : All [] := fun p h => by cases h
theorem all_app {a b : List Prop} (h : All (a ++ b)) : All a ∧ All b := ⟨fun p hp => h p (List.mem_append_left _ hp), fun p hp => h p (List.mem_append_right _ hp)⟩
theorem app_all {a b : List Prop} (h : All a) (k : All b) : All (a ++ b) := fun p hp => (List.mem_append.1 hp).elim (h p) (k p)

def Ev (α : Type) := Tr → Sup → Option (Res α)

def Ev.pure {α : Type} (a : α) : Ev α := fun H s => some ⟨a, H, s, [], []⟩
def Ev.fail {α : Type} : Ev α := fun _ _ => none
def Ev.bind {α β : Type} (e : Ev α) (f : α → Ev β) : Ev β := fun H s =>
  match e H s with
  | none => none
  | some ⟨a, H₁, s₁, l₁, p₁⟩ => match f a H₁ s₁ with
    | none => none
    | some ⟨b, H₂, s₂, l₂, p₂⟩ => some ⟨b, H₂, s₂, l₁ ++ l₂, p₁ ++ p₂⟩

def cell (H : Tr) (n o : Nat) : Option Value := match H.get n with
  | some B => B.cells[o]?
  | none => none
def inf (H : Tr) (n : Nat) : Option (Nat × TypeId × Bool × Bool) := match H.get n with
  | some B => some (B.cells.length, B.elem, B.soft, B.ro)
  | none => none

theorem get_ext {H K : Tr} {n : Nat} (hc : ∀ o, cell H n o = cell K n o) (hi : inf H n = inf K n) : H.get n = K.get n := by
  unfold cell inf at *
  cases hH : H.get n with
  | none => cases hK : K.get n with
    | none => rfl
    | some B => simp [hH, hK] at hi
  | some A => cases hK : K.get n with
    | none => simp [hH, hK] at hi
    | some B =>
      simp only [hH, hK] at hc hi
      obtain ⟨c, e, s, r⟩ := A
      obtain ⟨c', e', s', r'⟩ := B
      simp only [Option.some.injEq, Prod.mk.injEq] at hi
      have : c = c' := List.ext_getElem? hc
      simp [this, hi.2.1, hi.2.2.1, hi.2.2.2]
theorem cell_of_get {H K : Tr} {n : Nat} (h : H.get n = K.get n) (o : Nat) : cell H n o = cell K n o := by simp [cell, h]
theorem inf_of_get {H K : Tr} {n : Nat} (h : H.get n = K.get n) : inf H n = inf K n := by simp [inf, h]

def Wr (l : List Evt) (n o : Nat) : Prop := Evt.wr n o ∈ l ∨ Evt.kill n ∈ l
def Kl (l : List Evt) (n : Nat) : Prop := Evt.kill n ∈ l
def Ag (H K : Tr) : Evt → Prop
  | .rd n o | .wr n o => cell H n o = cell K n o
  | .look n => inf H n = inf K n
  | .kill n => H.get n = K.get n

/-- Fresh: a name that is given between. -/
def Fs (a b n : Nat) : Prop := a ≤ n ∧ n < b

structure Chg (H K : Tr) (a b : Nat) (l : List Evt) : Prop where
  cell : ∀ n o, ¬ Wr l n o → ¬ Fs a b n → cell K n o = cell H n o
  inf : ∀ n, ¬ Kl l n → ¬ Fs a b n → inf K n = inf H n
  none : ∀ n, ¬ Fs a b n → H.get n = none → K.get n = none
structure Like (H K : Tr) (a b : Nat) (l : List Evt) : Prop where
  cell : ∀ n o, Wr l n o ∨ Fs a b n → E.cell K n o = E.cell H n o
  inf : ∀ n, Kl l n ∨ Fs a b n → E.inf K n = E.inf H n

/-- What it does hangs on what it looks at alone, and changes but what it says. -/
def Framed {α : Type} (e : Ev α) : Prop := ∀ H s r, e H s = some r → s.name ≤ r.sup.name ∧
  ((∀ n, Fs s.name r.sup.name n → H.get n = none) → Chg H r.hp s.name r.sup.name r.log ∧
    ∀ K, (∀ ev ∈ r.log, Ag H K ev) → (∀ n, Fs s.name r.sup.name n → K.get n = none) →
      ∃ K', e K s = some { r with hp := K' } ∧ Chg K K' s.name r.sup.name r.log ∧ Like r.hp K' s.name r.sup.name r.log)

theorem Chg.refl (H : Tr) (a b : Nat) (l : List Evt) : Chg H H a b l := ⟨fun _ _ _ _ => rfl, fun _ _ _ => rfl, fun _ _ h => h⟩
theorem Chg.trans {H K L : Tr} {a b c : Nat} {l m : List Evt} (h : Chg H K a b l) (k : Chg K L b c m) (hab : a ≤ b) (hbc : b ≤ c) : Chg H L a c (l ++ m) where
  cell n o hw hf := by
    have hw1 : ¬ Wr l n o := fun x => hw (by rcases x with x | x <;> simp [Wr, x])
    have hw2 : ¬ Wr m n o := fun x => hw (by rcases x with x | x <;> simp [Wr, x])
    rw [k.cell n o hw2 (fun x => hf ⟨by have := x.1; omega, x.2⟩), h.cell n o hw1 (fun x => hf ⟨x.1, by have := x.2; omega⟩)]
  inf n hw hf := by
    have hw1 : ¬ Kl l n := fun x => hw (by simp [Kl] at *; exact .inl x)
    have hw2 : ¬ Kl m n := fun x => hw (by simp [Kl] at *; exact .inr x)
    rw [k.inf n hw2 (fun x => hf ⟨by have := x.1; omega, x.2⟩), h.inf n hw1 (fun x => hf ⟨x.1, by have := x.2; omega⟩)]
  none n hf hn := k.none n (fun x => hf ⟨by have := x.1; omega, x.2⟩) (h.none n (fun x => hf ⟨x.1, by have := x.2; omega⟩) hn)

/-- What two memories agree in, they agree in behind the same. -/
theorem ag_after {H K H₁ K₁ : Tr} {a b : Nat} {l : List Evt} {ev : Evt} (h : Ag H K ev) (c₁ : Chg H H₁ a b l) (c₂ : Chg K K₁ a b l) (lk : Like H₁ K₁ a b l) : Ag H₁ K₁ ev := by
  have hcell : ∀ n o, E.cell H n o = E.cell K n o → E.cell H₁ n o = E.cell K₁ n o := by
    intro n o h
    by_cases hx : Wr l n o ∨ Fs a b n
    · exact (lk.cell n o hx).symm
    · rw [not_or] at hx
      rw [c₁.cell n o hx.1 hx.2, c₂.cell n o hx.1 hx.2, h]
  have hinf : ∀ n, E.inf H n = E.inf K n → E.inf H₁ n = E.inf K₁ n := by
    intro n h
    by_cases hx : Kl l n ∨ Fs a b n
    · exact (lk.inf n hx).symm
    · rw [not_or] at hx
      rw [c₁.inf n hx.1 hx.2, c₂.inf n hx.1 hx.2, h]
  cases ev with
  | rd n o => exact hcell n o h
  | wr n o => exact hcell n o h
  | look n => exact hinf n h
  | kill n => exact get_ext (fun o => hcell n o (cell_of_get h o)) (hinf n (inf_of_get h))

theorem Like.trans {H₁ K₁ H₂ K₂ : Tr} {a b c : Nat} {l m : List Evt} (h : Like H₁ K₁ a b l) (c₁ : Chg H₁ H₂ b c m) (c₂ : Chg K₁ K₂ b c m) (k : Like H₂ K₂ b c m) :
    Like H₂ K₂ a c (l ++ m) where
  cell n o hx := by
    by_cases hm : Wr m n o ∨ Fs b c n
    · exact k.cell n o hm
    · rw [not_or] at hm
      rw [c₁.cell n o hm.1 hm.2, c₂.cell n o hm.1 hm.2]
      refine h.cell n o ?_
      rcases hx with hx | hx
      · simp only [Wr, List.mem_append] at hx hm ⊢
        simp only [not_or] at hm
        rcases hx with (hx | hx) | (hx | hx)
        · exact .inl (.inl hx)
        · exact (hm.1.1 hx).elim
        · exact .inl (.inr hx)
        · exact (hm.1.2 hx).elim
      · have := hm.2; simp only [Fs] at *; exact .inr (by omega)
  inf n hx := by
    by_cases hm : Kl m n ∨ Fs b c n
    · exact k.inf n hm
    · rw [not_or] at hm
      rw [c₁.inf n hm.1 hm.2, c₂.inf n hm.1 hm.2]
      refine h.inf n ?_
      rcases hx with hx | hx
      · simp only [Kl, List.mem_append] at hx hm ⊢
        rcases hx with hx | hx
        · exact .inl hx
        · exact (hm.1 hx).elim
      · have := hm.2; simp only [Fs] at *; exact .inr (by omega)

theorem framed_pure {α : Type} (a : α) : Framed (Ev.pure a) := by
  intro H s r h
  simp only [Ev.pure, Option.some.injEq] at h
  subst h
  exact ⟨Nat.le_refl _, fun _ => ⟨.refl .., fun K _ _ => ⟨K, rfl, .refl .., ⟨fun n o hx => by simp [Wr, Fs] at hx; omega, fun n hx => by simp [Kl, Fs] at hx; omega⟩⟩⟩⟩
theorem framed_fail {α : Type} : Framed (Ev.fail (α := α)) := by intro H s r h; simp [Ev.fail] at h

theorem framed_bind {α β : Type} {e : Ev α} {f : α → Ev β} (he : Framed e) (hf : ∀ a, Framed (f a)) : Framed (e.bind f) := by
  intro H s r h
  unfold Ev.bind at h
  cases h₁ : e H s with
  | none => simp [h₁] at h
  | some r₁ =>
    obtain ⟨a, H₁, s₁, l₁, p₁⟩ := r₁
    simp only [h₁] at h
    cases h₂ : f a H₁ s₁ with
    | none => simp [h₂] at h
    | some r₂ =>
      obtain ⟨b, H₂, s₂, l₂, p₂⟩ := r₂
      simp only [h₂, Option.some.injEq] at h
      subst h
      obtain ⟨m₁, g₁⟩ := he _ _ _ h₁
      obtain ⟨m₂, g₂⟩ := hf a _ _ _ h₂
      simp only [] at m₁ m₂ g₁ g₂ ⊢
      refine ⟨Nat.le_trans m₁ m₂, fun hfr => ?_⟩
      obtain ⟨c₁, k₁⟩ := g₁ fun n hn => hfr n ⟨hn.1, Nat.lt_of_lt_of_le hn.2 m₂⟩
      obtain ⟨c₂, k₂⟩ := g₂ fun n hn => c₁.none n (fun x => by have := x.2; have := hn.1; omega) (hfr n ⟨Nat.le_trans m₁ hn.1, hn.2⟩)
      refine ⟨c₁.trans c₂ m₁ m₂, fun K hK hKf => ?_⟩
      obtain ⟨K₁, e₁, d₁, L₁⟩ := k₁ K (fun ev hev => hK ev (List.mem_append_left _ hev)) fun n hn => hKf n ⟨hn.1, Nat.lt_of_lt_of_le hn.2 m₂⟩
      obtain ⟨K₂, e₂, d₂, L₂⟩ := k₂ K₁ (fun ev hev => ag_after (hK ev (List.mem_append_right _ hev)) c₁ d₁ L₁)
        fun n hn => d₁.none n (fun x => by have := x.2; have := hn.1; omega) (hKf n ⟨Nat.le_trans m₁ hn.1, hn.2⟩)
      exact ⟨K₂, by simp [Ev.bind, e₁, e₂], d₁.trans d₂ m₁ m₂, L₁.trans c₂ d₂ L₂⟩

end Go.Proofs.YtakfoidmabendaaDoor.E
