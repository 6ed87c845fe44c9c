/- Contracts of functions of this translation, and what they come to; what is not used is left out. -/
import Derived.Orders
import Derived.Laws.Sem
import Derived.Laws.Append
import Derived.Laws.AppendOwn
import Derived.Laws.BytesString
import Derived.Laws.MakeOwn
import Derived.Laws.IdiomStrings
import Derived.Laws.StructEq
import Derived.Lib.Strings
import Derived.Below

section
/- A machine that reckons beside the model: its memory (names for blocks), what it does to it, and that what it does hangs on what it looks at alone. -/
set_option linter.unusedVariables false
set_option linter.unusedSimpArgs false
namespace Go.Proofs.YtofdiilfedjhkaaDoor.E

/-- A block by name: what is known of its cells; soft: the real one may be longer; ro: it is not written to. -/
structure Blk where
  cells : List Value
  elem : TypeId
  soft : Bool
  ro : Bool

/-- Blocks by their names. -/
inductive Tr where
  | leaf
  | node (v : Option Blk) (l r : Tr)

def Tr.get : Tr → Nat → Option Blk
  | .leaf, _ => none
  | .node v l r, n => match n with
    | 0 => v
    | m + 1 => match m % 2 with
      | 0 => l.get (m / 2)
      | _ + 1 => r.get (m / 2)

def Tr.put : Nat → Tr → Nat → Option Blk → Tr
  | 0, t, _, _ => t
  | f + 1, t, n, x => match t with
    | .leaf => match n with
      | 0 => .node x .leaf .leaf
      | m + 1 => match m % 2 with
        | 0 => .node none (Tr.put f .leaf (m / 2) x) .leaf
        | _ + 1 => .node none .leaf (Tr.put f .leaf (m / 2) x)
    | .node v l r => match n with
      | 0 => .node x l r
      | m + 1 => match m % 2 with
        | 0 => .node v (Tr.put f l (m / 2) x) r
        | _ + 1 => .node v l (Tr.put f r (m / 2) x)

theorem Tr.get_put : ∀ (f : Nat) (t : Tr) (n k : Nat) (x : Option Blk), n < f → (Tr.put f t n x).get k = if k = n then x else t.get k := by
  intro f
  induction f with
  | zero => intro t n k x h; omega
  | succ f ih =>
    intro t n k x h
    cases t with
    | leaf =>
      cases n with
      | zero => cases k <;> simp [Tr.put, Tr.get]; split <;> rfl
      | succ m =>
        have hm : m / 2 < f := by omega
        simp only [Tr.put]
        cases he : m % 2 with
        | zero =>
          cases k with
          | zero => simp [Tr.get]
          | succ j =>
            simp only [Tr.get]
            cases hj : j % 2 with
            | zero =>
              simp only []
              rw [ih _ _ _ _ hm]
              by_cases e : j = m
              · subst e; simp
              · rw [if_neg (by omega), if_neg (by omega)]; rfl
            | succ q => rw [if_neg (by omega)]
        | succ p =>
          cases k with
          | zero => simp [Tr.get]
          | succ j =>
            simp only [Tr.get]
            cases hj : j % 2 with
            | zero => rw [if_neg (by omega)]
            | succ q =>
              simp only []
              rw [ih _ _ _ _ hm]
              by_cases e : j = m
              · subst e; simp
              · rw [if_neg (by omega), if_neg (by omega)]; rfl
    | node v l r =>
      cases n with
      | zero => cases k <;> simp [Tr.put, Tr.get]
      | succ m =>
        have hm : m / 2 < f := by omega
        simp only [Tr.put]
        cases he : m % 2 with
        | zero =>
          cases k with
          | zero => simp [Tr.get]
          | succ j =>
            simp only [Tr.get]
            cases hj : j % 2 with
            | zero =>
              simp only []
              rw [ih _ _ _ _ hm]
              by_cases e : j = m
              · subst e; simp
              · rw [if_neg (by omega), if_neg (by omega)]
            | succ q => rw [if_neg (by omega)]
        | succ p =>
          cases k with
          | zero => simp [Tr.get]
          | succ j =>
            simp only [Tr.get]
            cases hj : j % 2 with
            | zero => rw [if_neg (by omega)]
            | succ q =>
              simp only []
              rw [ih _ _ _ _ hm]
              by_cases e : j = m
              · subst e; simp
              · rw [if_neg (by omega), if_neg (by omega)]

/-- 'put', each node made as it is come by. -/
def Tr.putK {β : Type} : Nat → Tr → Nat → Option Blk → (Tr → β) → β
  | 0, t, _, _, k => k t
  | f + 1, t, n, x, k => match t with
    | .leaf => match n with
      | 0 => k (.node x .leaf .leaf)
      | m + 1 => match m % 2 with
        | 0 => Tr.putK f .leaf (m / 2) x fun l => k (.node none l .leaf)
        | _ + 1 => Tr.putK f .leaf (m / 2) x fun r => k (.node none .leaf r)
    | .node v l r => match n with
      | 0 => k (.node x l r)
      | m + 1 => match m % 2 with
        | 0 => Tr.putK f l (m / 2) x fun l => k (.node v l r)
        | _ + 1 => Tr.putK f r (m / 2) x fun r => k (.node v l r)
theorem Tr.putK_eq {β : Type} : ∀ (f : Nat) (t : Tr) (n : Nat) (x : Option Blk) (k : Tr → β), Tr.putK f t n x k = k (Tr.put f t n x) := by
  intro f
  induction f with
  | zero => intros; rfl
  | succ f ih =>
    intro t n x k
    cases t with
    | leaf =>
      cases n with
      | zero => rfl
      | succ m => simp only [Tr.putK, Tr.put]; cases m % 2 <;> simp only [ih]
    | node v l r =>
      cases n with
      | zero => rfl
      | succ m => simp only [Tr.putK, Tr.put]; cases m % 2 <;> simp only [ih]

/-- 'l' with one place laid anew, each cell made as it is come by. -/
def setK {α β : Type} : List α → Nat → α → (List α → β) → β
  | [], _, _, k => k []
  | a :: l, n, v, k => match n with
    | 0 => k (v :: l)
    | m + 1 => setK l m v fun l' => k (a :: l')
theorem setK_eq {α β : Type} : ∀ (l : List α) (n : Nat) (v : α) (k : List α → β), setK l n v k = k (l.set n v) := by
  intro l
  induction l with
  | nil => intros; rfl
  | cons a l ih => intro n v k; cases n with
    | zero => rfl
    | succ m => simp [setK, ih]

/-- A number worked out. -/
def natK {β : Type} (n : Nat) (k : Nat → β) : β := match n with
  | 0 => k 0
  | m + 1 => k (Nat.succ m)
theorem natK_eq {β : Type} (n : Nat) (k : Nat → β) : natK n k = k n := by cases n <;> rfl

/-- What is looked at, and what is changed. -/
inductive Evt where
  | rd (n o : Nat)
  | wr (n o : Nat)
  | look (n : Nat)
  | kill (n : Nat)

/-- What is known ahead: an operation's answer, a test's. -/
inductive Ora where
  | calc
  | val (v : Value)
  | bit (b : Bool)
  | fresh (v : Value)

structure Sup where
  name : Nat
  ora : List (Nat × Ora)

structure Res (α : Type) where
  val : α
  hp : Tr
  sup : Sup
  log : List Evt
  need : List Prop

/-- All that is needed. -/
def All (l : List Prop) : Prop := ∀ p ∈ l, p
theorem all_nil : All [] := fun p h => by cases h
theorem all_app {a b : List Prop} (h : All (a ++ b)) : All a ∧ All b := ⟨fun p hp => h p (List.mem_append_left _ hp), fun p hp => h p (List.mem_append_right _ hp)⟩
def Ev (α : Type) := Tr → Sup → Option (Res α)

def Ev.pure {α : Type} (a : α) : Ev α := fun H s => some ⟨a, H, s, [], []⟩
def Ev.fail {α : Type} : Ev α := fun _ _ => none
def Ev.bind {α β : Type} (e : Ev α) (f : α → Ev β) : Ev β := fun H s =>
  match e H s with
  | none => none
  | some ⟨a, H₁, s₁, l₁, p₁⟩ => match f a H₁ s₁ with
    | none => none
    | some ⟨b, H₂, s₂, l₂, p₂⟩ => some ⟨b, H₂, s₂, l₁ ++ l₂, p₁ ++ p₂⟩

def cell (H : Tr) (n o : Nat) : Option Value := match H.get n with
  | some B => B.cells[o]?
  | none => none
def inf (H : Tr) (n : Nat) : Option (Nat × TypeId × Bool × Bool) := match H.get n with
  | some B => some (B.cells.length, B.elem, B.soft, B.ro)
  | none => none

theorem get_ext {H K : Tr} {n : Nat} (hc : ∀ o, cell H n o = cell K n o) (hi : inf H n = inf K n) : H.get n = K.get n := by
  unfold cell inf at *
  cases hH : H.get n with
  | none => cases hK : K.get n with
    | none => rfl
    | some B => simp [hH, hK] at hi
  | some A => cases hK : K.get n with
    | none => simp [hH, hK] at hi
    | some B =>
      simp only [hH, hK] at hc hi
      obtain ⟨c, e, s, r⟩ := A
      obtain ⟨c', e', s', r'⟩ := B
      simp only [Option.some.injEq, Prod.mk.injEq] at hi
      have : c = c' := List.ext_getElem? hc
      simp [this, hi.2.1, hi.2.2.1, hi.2.2.2]
theorem cell_of_get {H K : Tr} {n : Nat} (h : H.get n = K.get n) (o : Nat) : cell H n o = cell K n o := by simp [cell, h]
theorem inf_of_get {H K : Tr} {n : Nat} (h : H.get n = K.get n) : inf H n = inf K n := by simp [inf, h]

def Wr (l : List Evt) (n o : Nat) : Prop := Evt.wr n o ∈ l ∨ Evt.kill n ∈ l
def Kl (l : List Evt) (n : Nat) : Prop := Evt.kill n ∈ l
def Ag (H K : Tr) : Evt → Prop
  | .rd n o | .wr n o => cell H n o = cell K n o
  | .look n => inf H n = inf K n
  | .kill n => H.get n = K.get n

/-- Fresh: a name that is given between. -/
def Fs (a b n : Nat) : Prop := a ≤ n ∧ n < b

structure Chg (H K : Tr) (a b : Nat) (l : List Evt) : Prop where
  cell : ∀ n o, ¬ Wr l n o → ¬ Fs a b n → cell K n o = cell H n o
  inf : ∀ n, ¬ Kl l n → ¬ Fs a b n → inf K n = inf H n
  none : ∀ n, ¬ Fs a b n → H.get n = none → K.get n = none
structure Like (H K : Tr) (a b : Nat) (l : List Evt) : Prop where
  cell : ∀ n o, Wr l n o ∨ Fs a b n → E.cell K n o = E.cell H n o
  inf : ∀ n, Kl l n ∨ Fs a b n → E.inf K n = E.inf H n

/-- What it does hangs on what it looks at alone, and changes but what it says. -/
def Framed {α : Type} (e : Ev α) : Prop := ∀ H s r, e H s = some r → s.name ≤ r.sup.name ∧
  ((∀ n, Fs s.name r.sup.name n → H.get n = none) → Chg H r.hp s.name r.sup.name r.log ∧
    ∀ K, (∀ ev ∈ r.log, Ag H K ev) → (∀ n, Fs s.name r.sup.name n → K.get n = none) →
      ∃ K', e K s = some { r with hp := K' } ∧ Chg K K' s.name r.sup.name r.log ∧ Like r.hp K' s.name r.sup.name r.log)

theorem Chg.refl (H : Tr) (a b : Nat) (l : List Evt) : Chg H H a b l := ⟨fun _ _ _ _ => rfl, fun _ _ _ => rfl, fun _ _ h => h⟩
theorem Chg.trans {H K L : Tr} {a b c : Nat} {l m : List Evt} (h : Chg H K a b l) (k : Chg K L b c m) (hab : a ≤ b) (hbc : b ≤ c) : Chg H L a c (l ++ m) where
  cell n o hw hf := by
    have hw1 : ¬ Wr l n o := fun x => hw (by rcases x with x | x <;> simp [Wr, x])
    have hw2 : ¬ Wr m n o := fun x => hw (by rcases x with x | x <;> simp [Wr, x])
    rw [k.cell n o hw2 (fun x => hf ⟨by have := x.1; omega, x.2⟩), h.cell n o hw1 (fun x => hf ⟨x.1, by have := x.2; omega⟩)]
  inf n hw hf := by
    have hw1 : ¬ Kl l n := fun x => hw (by simp [Kl] at *; exact .inl x)
    have hw2 : ¬ Kl m n := fun x => hw (by simp [Kl] at *; exact .inr x)
    rw [k.inf n hw2 (fun x => hf ⟨by have := x.1; omega, x.2⟩), h.inf n hw1 (fun x => hf ⟨x.1, by have := x.2; omega⟩)]
  none n hf hn := k.none n (fun x => hf ⟨by have := x.1; omega, x.2⟩) (h.none n (fun x => hf ⟨x.1, by have := x.2; omega⟩) hn)

/-- What two memories agree in, they agree in behind the same. -/
theorem ag_after {H K H₁ K₁ : Tr} {a b : Nat} {l : List Evt} {ev : Evt} (h : Ag H K ev) (c₁ : Chg H H₁ a b l) (c₂ : Chg K K₁ a b l) (lk : Like H₁ K₁ a b l) : Ag H₁ K₁ ev := by
  have hcell : ∀ n o, E.cell H n o = E.cell K n o → E.cell H₁ n o = E.cell K₁ n o := by
    intro n o h
    by_cases hx : Wr l n o ∨ Fs a b n
    · exact (lk.cell n o hx).symm
    · rw [not_or] at hx
      rw [c₁.cell n o hx.1 hx.2, c₂.cell n o hx.1 hx.2, h]
  have hinf : ∀ n, E.inf H n = E.inf K n → E.inf H₁ n = E.inf K₁ n := by
    intro n h
    by_cases hx : Kl l n ∨ Fs a b n
    · exact (lk.inf n hx).symm
    · rw [not_or] at hx
      rw [c₁.inf n hx.1 hx.2, c₂.inf n hx.1 hx.2, h]
  cases ev with
  | rd n o => exact hcell n o h
  | wr n o => exact hcell n o h
  | look n => exact hinf n h
  | kill n => exact get_ext (fun o => hcell n o (cell_of_get h o)) (hinf n (inf_of_get h))

theorem Like.trans {H₁ K₁ H₂ K₂ : Tr} {a b c : Nat} {l m : List Evt} (h : Like H₁ K₁ a b l) (c₁ : Chg H₁ H₂ b c m) (c₂ : Chg K₁ K₂ b c m) (k : Like H₂ K₂ b c m) :
    Like H₂ K₂ a c (l ++ m) where
  cell n o hx := by
    by_cases hm : Wr m n o ∨ Fs b c n
    · exact k.cell n o hm
    · rw [not_or] at hm
      rw [c₁.cell n o hm.1 hm.2, c₂.cell n o hm.1 hm.2]
      refine h.cell n o ?_
      rcases hx with hx | hx
      · simp only [Wr, List.mem_append] at hx hm ⊢
        simp only [not_or] at hm
        rcases hx with (hx | hx) | (hx | hx)
        · exact .inl (.inl hx)
        · exact (hm.1.1 hx).elim
        · exact .inl (.inr hx)
        · exact (hm.1.2 hx).elim
      · have := hm.2; simp only [Fs] at *; exact .inr (by omega)
  inf n hx := by
    by_cases hm : Kl m n ∨ Fs b c n
    · exact k.inf n hm
    · rw [not_or] at hm
      rw [c₁.inf n hm.1 hm.2, c₂.inf n hm.1 hm.2]
      refine h.inf n ?_
      rcases hx with hx | hx
      · simp only [Kl, List.mem_append] at hx hm ⊢
        rcases hx with hx | hx
        · exact .inl hx
        · exact (hm.1 hx).elim
      · have := hm.2; simp only [Fs] at *; exact .inr (by omega)

theorem framed_pure {α : Type} (a : α) : Framed (Ev.pure a) := by
  intro H s r h
  simp only [Ev.pure, Option.some.injEq] at h
  subst h
  exact ⟨Nat.le_refl _, fun _ => ⟨.refl .., fun K _ _ => ⟨K, rfl, .refl .., ⟨fun n o hx => by simp [Wr, Fs] at hx; omega, fun n hx => by simp [Kl, Fs] at hx; omega⟩⟩⟩⟩
theorem framed_fail {α : Type} : Framed (Ev.fail (α := α)) := by intro H s r h; simp [Ev.fail] at h

theorem framed_bind {α β : Type} {e : Ev α} {f : α → Ev β} (he : Framed e) (hf : ∀ a, Framed (f a)) : Framed (e.bind f) := by
  intro H s r h
  unfold Ev.bind at h
  cases h₁ : e H s with
  | none => simp [h₁] at h
  | some r₁ =>
    obtain ⟨a, H₁, s₁, l₁, p₁⟩ := r₁
    simp only [h₁] at h
    cases h₂ : f a H₁ s₁ with
    | none => simp [h₂] at h
    | some r₂ =>
      obtain ⟨b, H₂, s₂, l₂, p₂⟩ := r₂
      simp only [h₂, Option.some.injEq] at h
      subst h
      obtain ⟨m₁, g₁⟩ := he _ _ _ h₁
      obtain ⟨m₂, g₂⟩ := hf a _ _ _ h₂
      simp only [] at m₁ m₂ g₁ g₂ ⊢
      refine ⟨Nat.le_trans m₁ m₂, fun hfr => ?_⟩
      obtain ⟨c₁, k₁⟩ := g₁ fun n hn => hfr n ⟨hn.1, Nat.lt_of_lt_of_le hn.2 m₂⟩
      obtain ⟨c₂, k₂⟩ := g₂ fun n hn => c₁.none n (fun x => by have := x.2; have := hn.1; omega) (hfr n ⟨Nat.le_trans m₁ hn.1, hn.2⟩)
      refine ⟨c₁.trans c₂ m₁ m₂, fun K hK hKf => ?_⟩
      obtain ⟨K₁, e₁, d₁, L₁⟩ := k₁ K (fun ev hev => hK ev (List.mem_append_left _ hev)) fun n hn => hKf n ⟨hn.1, Nat.lt_of_lt_of_le hn.2 m₂⟩
      obtain ⟨K₂, e₂, d₂, L₂⟩ := k₂ K₁ (fun ev hev => ag_after (hK ev (List.mem_append_right _ hev)) c₁ d₁ L₁)
        fun n hn => d₁.none n (fun x => by have := x.2; have := hn.1; omega) (hKf n ⟨Nat.le_trans m₁ hn.1, hn.2⟩)
      exact ⟨K₂, by simp [Ev.bind, e₁, e₂], d₁.trans d₂ m₁ m₂, L₁.trans c₂ d₂ L₂⟩

end Go.Proofs.YtofdiilfedjhkaaDoor.E
end

section
/- The machine's first means: a cell read, a cell written, a block made, looked at, taken away; what is known ahead. -/
set_option linter.unusedVariables false
set_option linter.unusedSimpArgs false
namespace Go.Proofs.YtofdiilfedjhkaaDoor.E

def rd (n o : Nat) : Ev Value := fun H s => match cell H n o with
  | some v => some ⟨v, H, s, [.rd n o], []⟩
  | none => none
def wr (n o : Nat) (v : Value) : Ev Unit := fun H s => match H.get n with
  | some ⟨c, e, so, ro⟩ => match ro, Nat.blt o c.length with
    | false, true => setK c o v fun c' => Tr.putK (n + 1) H n (some ⟨c', e, so, ro⟩) fun H' => some ⟨(), H', s, [.look n, .wr n o], []⟩
    | _, _ => none
  | none => none
def spineK {α β : Type} : List α → (List α → β) → β
  | [], k => k []
  | a :: l, k => spineK l fun l => k (a :: l)
theorem spineK_eq {α β : Type} : ∀ (l : List α) (k : List α → β), spineK l k = k l := by
  intro l
  induction l with
  | nil => intro k; rfl
  | cons a l ih => intro k; simp [spineK, ih]
def new (B : Blk) : Ev Nat := fun H s => match s, B with
  | ⟨n, ora⟩, ⟨c, e, so, ro⟩ => spineK c fun c => Tr.putK (n + 1) H n (some ⟨c, e, so, ro⟩) fun H' => natK (n + 1) fun m => some ⟨n, H', ⟨m, ora⟩, [], []⟩
def look (n : Nat) : Ev (Nat × TypeId × Bool × Bool) := fun H s => match inf H n with
  | some i => some ⟨i, H, s, [.look n], []⟩
  | none => none
def kill (n : Nat) : Ev Blk := fun H s => match H.get n with
  | some ⟨c, e, so, ro⟩ => match ro with
    | false => Tr.putK (n + 1) H n none fun H' => some ⟨⟨c, e, so, ro⟩, H', s, [.kill n], []⟩
    | true => none
  | none => none
def ask : Ev Ora := fun H s => match s with
  | ⟨n, []⟩ => some ⟨.calc, H, ⟨n, []⟩, [], []⟩
  | ⟨n, (0, x) :: l⟩ => some ⟨x, H, ⟨n, l⟩, [], []⟩
  | ⟨n, (k + 1, x) :: l⟩ => some ⟨.calc, H, ⟨n, (k, x) :: l⟩, [], []⟩
/-- A name that nothing has. -/
def bump : Ev Nat := fun H s => match s with
  | ⟨n, ora⟩ => natK (n + 1) fun m => some ⟨n, H, ⟨m, ora⟩, [], []⟩
def need (p : Prop) : Ev Unit := fun H s => some ⟨(), H, s, [], [p]⟩
theorem cell_put (H : Tr) (n : Nat) (x : Option Blk) (m o : Nat) : cell (Tr.put (n + 1) H n x) m o = if m = n then (match x with | some B => B.cells[o]? | none => none) else cell H m o := by
  unfold cell
  rw [Tr.get_put _ _ _ _ _ (Nat.lt_succ_self n)]
  cases x <;> by_cases e : m = n <;> simp [e]
theorem inf_put (H : Tr) (n : Nat) (x : Option Blk) (m : Nat) : inf (Tr.put (n + 1) H n x) m = if m = n then (match x with | some B => some (B.cells.length, B.elem, B.soft, B.ro) | none => none) else inf H m := by
  unfold inf
  rw [Tr.get_put _ _ _ _ _ (Nat.lt_succ_self n)]
  cases x <;> by_cases e : m = n <;> simp [e]
theorem cell_get {H : Tr} {n : Nat} {B : Blk} (h : H.get n = some B) (o : Nat) : cell H n o = B.cells[o]? := by simp [cell, h]
theorem inf_get {H : Tr} {n : Nat} {B : Blk} (h : H.get n = some B) : inf H n = some (B.cells.length, B.elem, B.soft, B.ro) := by simp [inf, h]
theorem inf_none {H : Tr} {n : Nat} : inf H n = none ↔ H.get n = none := by unfold inf; cases H.get n <;> simp

/-- What leaves the memory as it is. -/
theorem framed_quiet {α : Type} {e : Ev α} (h : ∀ H s r, e H s = some r → r.hp = H ∧ r.sup.name = s.name ∧ (∀ n o, ¬ Wr r.log n o) ∧ (∀ n, ¬ Kl r.log n) ∧
    ∀ K, (∀ ev ∈ r.log, Ag H K ev) → e K s = some { r with hp := K }) : Framed e := by
  intro H s r hr
  obtain ⟨h1, h2, h3, h3', h4⟩ := h H s r hr
  refine ⟨by omega, fun _ => ⟨h1 ▸ Chg.refl .., fun K hK _ => ⟨K, h4 K hK, .refl .., ⟨?_, ?_⟩⟩⟩⟩
  · intro n o hx
    rcases hx with hx | hx
    · exact (h3 n o hx).elim
    · exact absurd hx (by simp only [Fs]; omega)
  · intro n hx
    rcases hx with hx | hx
    · exact (h3' n hx).elim
    · exact absurd hx (by simp only [Fs]; omega)

theorem framed_bump : Framed bump := by
  intro H s r hr
  obtain ⟨n, l⟩ := s
  simp only [bump, natK_eq, Option.some.injEq] at hr
  subst hr
  have h0 : ∀ {K : Tr} {m o : Nat}, K.get m = none → cell K m o = none := fun h => by simp [cell, h]
  refine ⟨Nat.le_succ n, fun hf => ⟨Chg.refl .., fun K hK hKf => ⟨K, by simp only [bump, natK_eq], Chg.refl .., ⟨fun m o hx => ?_, fun m hx => ?_⟩⟩⟩⟩
  · rcases hx with hx | hx
    · exact absurd hx (by simp [Wr])
    · rw [h0 (hf m hx), h0 (hKf m hx)]
  · rcases hx with hx | hx
    · exact absurd hx (by simp [Kl])
    · rw [inf_none.2 (hf m hx), inf_none.2 (hKf m hx)]
theorem framed_rd (n o : Nat) : Framed (rd n o) := framed_quiet fun H s r h => by
  unfold rd at h
  cases hc : cell H n o with
  | none => simp [hc] at h
  | some v =>
    simp only [hc, Option.some.injEq] at h
    subst h
    refine ⟨rfl, rfl, by simp [Wr], by simp [Kl], fun K hK => ?_⟩
    have := hK (.rd n o) (by simp)
    simp only [Ag] at this
    simp [rd, ← this, hc]
theorem framed_ask : Framed ask := framed_quiet fun H s r h => by
  obtain ⟨n, l⟩ := s
  unfold ask at h
  cases l with
  | nil => simp only [Option.some.injEq] at h; subst h; exact ⟨rfl, rfl, by simp [Wr], by simp [Kl], fun K _ => rfl⟩
  | cons x l =>
    obtain ⟨k, x⟩ := x
    cases k <;> (simp only [Option.some.injEq] at h; subst h; exact ⟨rfl, rfl, by simp [Wr], by simp [Kl], fun K _ => rfl⟩)
theorem framed_need (p : Prop) : Framed (need p) := framed_quiet fun H s r h => by
  unfold need at h
  simp only [Option.some.injEq] at h; subst h; exact ⟨rfl, rfl, by simp [Wr], by simp [Kl], fun K _ => rfl⟩
theorem wr_eq {H : Tr} {s : Sup} {n o : Nat} {v : Value} {r : Res Unit} (h : wr n o v H s = some r) :
    ∃ B, H.get n = some B ∧ B.ro = false ∧ o < B.cells.length ∧ r = ⟨(), Tr.put (n + 1) H n (some { B with cells := B.cells.set o v }), s, [.look n, .wr n o], []⟩ := by
  unfold wr at h
  cases hB : H.get n with
  | none => simp [hB] at h
  | some B =>
    obtain ⟨c, e, so, ro⟩ := B
    cases ro with
    | true => simp [hB] at h
    | false =>
      cases hb : Nat.blt o c.length with
      | false => simp [hB, hb] at h
      | true =>
        simp only [hB, hb, setK_eq, Tr.putK_eq, Option.some.injEq] at h
        exact ⟨_, rfl, rfl, by simpa [Nat.blt_eq] using hb, h.symm⟩
theorem wr_mk {H : Tr} (s : Sup) {n o : Nat} (v : Value) {B : Blk} (hB : H.get n = some B) (hr : B.ro = false) (ho : o < B.cells.length) :
    wr n o v H s = some ⟨(), Tr.put (n + 1) H n (some { B with cells := B.cells.set o v }), s, [.look n, .wr n o], []⟩ := by
  obtain ⟨c, e, so, ro⟩ := B
  simp only at hr ho
  subst hr
  have hb : Nat.blt o c.length = true := by simpa [Nat.blt_eq] using ho
  simp [wr, hB, hb, setK_eq, Tr.putK_eq]
theorem framed_wr (n o : Nat) (v : Value) : Framed (wr n o v) := by
  intro H s r h
  obtain ⟨B, hB, hro, ho, rfl⟩ := wr_eq h
  have chg : ∀ (H : Tr) (B : Blk), H.get n = some B → Chg H (Tr.put (n + 1) H n (some { B with cells := B.cells.set o v })) s.name s.name [.look n, .wr n o] := by
    intro H B hB
    refine ⟨fun m q hw _ => ?_, fun m _ _ => ?_, fun m _ hm => ?_⟩
    · rw [cell_put]
      by_cases e : m = n
      · subst e
        rw [if_pos rfl, cell_get hB]
        have : o ≠ q := fun e => hw (.inl (by simp [e]))
        simp [List.getElem?_set_ne this]
      · rw [if_neg e]
    · rw [inf_put]
      by_cases e : m = n
      · subst e; rw [if_pos rfl, inf_get hB]; simp
      · rw [if_neg e]
    · rw [Tr.get_put _ _ _ _ _ (Nat.lt_succ_self n)]
      by_cases e : m = n
      · subst e; simp [hB] at hm
      · rw [if_neg e]; exact hm
  refine ⟨Nat.le_refl _, fun _ => ⟨chg H B hB, fun K hK _ => ?_⟩⟩
  have h1 := hK (.look n) (by simp)
  have h2 := hK (.wr n o) (by simp)
  simp only [Ag] at h1 h2
  rw [inf_get hB] at h1
  cases hKn : K.get n with
  | none => simp [inf, hKn] at h1
  | some C =>
    rw [inf_get hKn] at h1
    simp only [Option.some.injEq, Prod.mk.injEq] at h1
    obtain ⟨q1, q2, q3, q4⟩ := h1
    refine ⟨_, wr_mk s v hKn (q4 ▸ hro) (by omega), chg K C hKn, ⟨fun m q hx => ?_, fun m hx => ?_⟩⟩
    · rcases hx with hx | hx
      · simp [Wr] at hx
        obtain ⟨rfl, rfl⟩ := hx
        rw [cell_put, cell_put, if_pos rfl, if_pos rfl]
        simp [List.getElem?_set, ho, q1 ▸ ho]
      · exact absurd hx (by simp only [Fs]; omega)
    · rcases hx with hx | hx
      · simp [Kl] at hx
      · exact absurd hx (by simp only [Fs]; omega)

theorem new_eq (B : Blk) (H : Tr) (s : Sup) : new B H s = some ⟨s.name, Tr.put (s.name + 1) H s.name (some B), ⟨s.name + 1, s.ora⟩, [], []⟩ := by
  obtain ⟨n, l⟩ := s
  simp [new, natK_eq, Tr.putK_eq, spineK_eq]
theorem framed_new (B : Blk) : Framed (new B) := by
  intro H s r h
  rw [new_eq, Option.some.injEq] at h
  subst h
  have chg : ∀ H : Tr, Chg H (Tr.put (s.name + 1) H s.name (some B)) s.name (s.name + 1) [] := by
    intro H
    refine ⟨fun m q _ hf => ?_, fun m _ hf => ?_, fun m hf hm => ?_⟩
    all_goals have e : m ≠ s.name := fun e => hf ⟨by omega, by omega⟩
    · rw [cell_put, if_neg e]
    · rw [inf_put, if_neg e]
    · rw [Tr.get_put _ _ _ _ _ (Nat.lt_succ_self _), if_neg e]; exact hm
  refine ⟨Nat.le_succ _, fun _ => ⟨chg H, fun K _ _ => ⟨_, new_eq B K s, chg K, ⟨fun m q hx => ?_, fun m hx => ?_⟩⟩⟩⟩
  · rcases hx with hx | hx
    · simp [Wr] at hx
    · have e : m = s.name := by simp only [Fs] at hx; omega
      subst e; rw [cell_put, cell_put, if_pos rfl, if_pos rfl]
  · rcases hx with hx | hx
    · simp [Kl] at hx
    · have e : m = s.name := by simp only [Fs] at hx; omega
      subst e; rw [inf_put, inf_put, if_pos rfl, if_pos rfl]

theorem kill_eq {H : Tr} {s : Sup} {n : Nat} {r : Res Blk} (h : kill n H s = some r) :
    ∃ B, H.get n = some B ∧ B.ro = false ∧ r = ⟨B, Tr.put (n + 1) H n none, s, [.kill n], []⟩ := by
  unfold kill at h
  cases hB : H.get n with
  | none => simp [hB] at h
  | some B =>
    obtain ⟨c, e, so, ro⟩ := B
    cases ro with
    | true => simp [hB] at h
    | false => simp only [hB, Tr.putK_eq, Option.some.injEq] at h; exact ⟨_, rfl, rfl, h.symm⟩
theorem framed_kill (n : Nat) : Framed (kill n) := by
  intro H s r h
  obtain ⟨B, hB, hro, rfl⟩ := kill_eq h
  have chg : ∀ H : Tr, Chg H (Tr.put (n + 1) H n none) s.name s.name [.kill n] := by
    intro H
    refine ⟨fun m q hw _ => ?_, fun m hw _ => ?_, fun m _ hm => ?_⟩
    · have e : m ≠ n := fun e => hw (.inr (by simp [e]))
      rw [cell_put, if_neg e]
    · have e : m ≠ n := fun e => hw (by simp [Kl, e])
      rw [inf_put, if_neg e]
    · rw [Tr.get_put _ _ _ _ _ (Nat.lt_succ_self _)]
      split
      · rfl
      · exact hm
  refine ⟨Nat.le_refl _, fun _ => ⟨chg H, fun K hK _ => ?_⟩⟩
  have h1 := hK (.kill n) (by simp)
  simp only [Ag] at h1
  rw [hB] at h1
  obtain ⟨c, e, so, ro⟩ := B
  simp only at hro
  subst hro
  refine ⟨_, by simp only [kill, ← h1, Tr.putK_eq], chg K, ⟨fun m q hx => ?_, fun m hx => ?_⟩⟩
  · rcases hx with hx | hx
    · have e : m = n := by simpa [Wr] using hx
      subst e; rw [cell_put, cell_put, if_pos rfl, if_pos rfl]
    · exact absurd hx (by simp only [Fs]; omega)
  · rcases hx with hx | hx
    · have e : m = n := by simpa [Kl] using hx
      subst e; rw [inf_put, inf_put, if_pos rfl, if_pos rfl]
    · exact absurd hx (by simp only [Fs]; omega)

def rds (n : Nat) : Nat → Nat → Ev (List Value)
  | _, 0 => .pure []
  | o, k + 1 => (rd n o).bind fun v => (rds n (o + 1) k).bind fun l => .pure (v :: l)
def wrs (n : Nat) : Nat → List Value → Ev Unit
  | _, [] => .pure ()
  | o, v :: l => (wr n o v).bind fun _ => wrs n (o + 1) l
theorem framed_rds (n : Nat) : ∀ (k o : Nat), Framed (rds n o k)
  | 0, o => framed_pure _
  | k + 1, o => framed_bind (framed_rd n o) fun v => framed_bind (framed_rds n k (o + 1)) fun l => framed_pure _
theorem framed_wrs (n : Nat) : ∀ (l : List Value) (o : Nat), Framed (wrs n o l)
  | [], o => framed_pure _
  | v :: l, o => framed_bind (framed_wr n o v) fun _ => framed_wrs n l (o + 1)
end Go.Proofs.YtofdiilfedjhkaaDoor.E
end

section
/- The machine's memory and the model's: which value stands for which, which block for which. -/
set_option linter.unusedVariables false
set_option linter.unusedSimpArgs false
namespace Go.Proofs.YtofdiilfedjhkaaDoor.E

structure Place where
  b : Nat
  base : Nat
  cap : Nat
  /-- A name may stand for a value that is not looked into. -/
  v : Value
abbrev Nm := Nat → Option Place
/-- A capacity from here on is not known: it is told where the slice begins in its row. -/
def softCap : Nat := 2 ^ 70

inductive VR (σ : Nm) : Value → Value → Prop
  | bool (b : Bool) : VR σ (.bool b) (.bool b)
  | int (k : IntKind) (n : Int) : VR σ (.int k n) (.int k n)
  | float (k : FloatKind) (n : Nat) : VR σ (.float k n) (.float k n)
  | complex (k : FloatKind) (n m : Nat) : VR σ (.complex k n m) (.complex k n m)
  | string (s : ByteArray) : VR σ (.string s) (.string s)
  | nilp : VR σ (.pointer none) (.pointer none)
  | ptr {n o : Nat} {p : Place} : σ n = some p → VR σ (.pointer (some ⟨n, o, none⟩)) (.pointer (some ⟨p.b, p.base + o, none⟩))
  | nils (l c : Nat) : VR σ (.slice none l c) (.slice none l c)
  | slc {n o l c : Nat} {p : Place} : σ n = some p → c < softCap → VR σ (.slice (some ⟨n, o, none⟩) l c) (.slice (some ⟨p.b, p.base + o, none⟩) l c)
  | soft {n o l i c : Nat} {p : Place} : σ n = some p → c + i = p.cap → l ≤ c → VR σ (.slice (some ⟨n, o, none⟩) l (softCap + i)) (.slice (some ⟨p.b, p.base + o, none⟩) l c)
  | nilFunc : VR σ .nilFunc .nilFunc
  | nilIface : VR σ .nilIface .nilIface
  | nilMap : VR σ (.map none) (.map none)
  | nilChan : VR σ (.chan none) (.chan none)
  | opq {n : Nat} {p : Place} : σ n = some p → (match p.v with | .agg _ | .tuple _ | .bool _ => false | _ => true) = true → VR σ (.chan (some n)) p.v
  | iface (t : TypeId) {v r : Value} : VR σ v r → VR σ (.iface t v) (.iface t r)
  | func (f : Fn) {a b c d : Array Value} : a.size = b.size → (∀ (i : Nat) (v r : Value), a[i]? = some v → b[i]? = some r → VR σ v r) → c.size = d.size → (∀ (i : Nat) (v r : Value), c[i]? = some v → d[i]? = some r → VR σ v r) → VR σ (.func f a c) (.func f b d)
  | agg {a b : Array Value} : a.size = b.size → (∀ (i : Nat) (v r : Value), a[i]? = some v → b[i]? = some r → VR σ v r) → VR σ (.agg a) (.agg b)
  | tuple {a b : Array Value} : a.size = b.size → (∀ (i : Nat) (v r : Value), a[i]? = some v → b[i]? = some r → VR σ v r) → VR σ (.tuple a) (.tuple b)

def AR (σ : Nm) (a b : Array Value) : Prop := a.size = b.size ∧ ∀ (i : Nat) (v r : Value), a[i]? = some v → b[i]? = some r → VR σ v r
def LR (σ : Nm) (a b : List Value) : Prop := a.length = b.length ∧ ∀ (i : Nat) (v r : Value), a[i]? = some v → b[i]? = some r → VR σ v r

def Sub (σ τ : Nm) : Prop := ∀ n p, σ n = some p → τ n = some p
theorem Sub.refl (σ : Nm) : Sub σ σ := fun _ _ h => h
theorem Sub.trans {a b c : Nm} (h : Sub a b) (k : Sub b c) : Sub a c := fun n p x => k n p (h n p x)

theorem VR.sub {σ τ : Nm} (hs : Sub σ τ) {v r : Value} (h : VR σ v r) : VR τ v r := by
  induction h with
  | bool b => exact .bool b
  | int k n => exact .int k n
  | float k n => exact .float k n
  | complex k n m => exact .complex k n m
  | string s => exact .string s
  | nilp => exact .nilp
  | ptr h => exact .ptr (hs _ _ h)
  | nils l c => exact .nils l c
  | slc h hc => exact .slc (hs _ _ h) hc
  | soft h hc hl => exact .soft (hs _ _ h) hc hl
  | nilFunc => exact .nilFunc
  | nilIface => exact .nilIface
  | nilMap => exact .nilMap
  | nilChan => exact .nilChan
  | opq h hf => exact .opq (hs _ _ h) hf
  | iface t _ ih => exact .iface t ih
  | func f h1 _ h3 _ i1 i2 => exact .func f h1 i1 h3 i2
  | agg h1 _ ih => exact .agg h1 ih
  | tuple h1 _ ih => exact .tuple h1 ih
theorem AR.sub {σ τ : Nm} (hs : Sub σ τ) {a b : Array Value} (h : AR σ a b) : AR τ a b := ⟨h.1, fun i v r x y => (h.2 i v r x y).sub hs⟩
theorem LR.sub {σ τ : Nm} (hs : Sub σ τ) {a b : List Value} (h : LR σ a b) : LR τ a b := ⟨h.1, fun i v r x y => (h.2 i v r x y).sub hs⟩
theorem LR.nil (σ : Nm) : LR σ [] [] := ⟨rfl, fun i v r h => by simp at h⟩
theorem LR.cons {σ : Nm} {v r : Value} {a b : List Value} (hv : VR σ v r) (h : LR σ a b) : LR σ (v :: a) (r :: b) := by
  refine ⟨by simp [h.1], fun i x y hx hy => ?_⟩
  cases i with
  | zero => simp at hx hy; subst hx hy; exact hv
  | succ i => simp at hx hy; exact h.2 i x y hx hy
theorem LR.array {σ : Nm} {a b : List Value} (h : LR σ a b) : AR σ a.toArray b.toArray := ⟨by simp [h.1], fun i v r x y => h.2 i v r (by simpa using x) (by simpa using y)⟩
theorem AR.list {σ : Nm} {a b : Array Value} (h : AR σ a b) : LR σ a.toList b.toList := ⟨by simp [h.1], fun i v r x y => h.2 i v r (by simpa using x) (by simpa using y)⟩
theorem LR.get {σ : Nm} {a b : List Value} (h : LR σ a b) {i : Nat} {v : Value} (hv : a[i]? = some v) : ∃ r, b[i]? = some r ∧ VR σ v r := by
  have hl : i < b.length := by
    rw [← h.1]
    rcases Nat.lt_or_ge i a.length with x | x
    · exact x
    · simp [List.getElem?_eq_none x] at hv
  exact ⟨b[i], by simp [hl], h.2 i v _ hv (by simp [hl])⟩
theorem AR.get {σ : Nm} {a b : Array Value} (h : AR σ a b) {i : Nat} {v : Value} (hv : a[i]? = some v) : ∃ r, b[i]? = some r ∧ VR σ v r := by
  obtain ⟨r, hr, x⟩ := h.list.get (i := i) (v := v) (by simpa using hv)
  exact ⟨r, by simpa using hr, x⟩

/-- Values without addresses. -/
def plain : Nat → Value → Bool
  | 0, _ => false
  | f + 1, v => match v with
    | .bool _ | .int _ _ | .float _ _ | .complex _ _ _ | .string _ | .nilFunc | .nilIface => true
    | .pointer none | .slice none _ _ | .map none | .chan none => true
    | .agg cs | .tuple cs => cs.toList.all (plain f)
    | .iface _ v => plain f v
    | .func _ a c => a.toList.all (plain f) && c.toList.all (plain f)
    | _ => false

theorem ar_eq {σ : Nm} {a b : Array Value} {f : Nat} (hs : a.size = b.size) (h : ∀ (i : Nat) (v r : Value), a[i]? = some v → b[i]? = some r → VR σ v r)
    (hp : ∀ v ∈ a.toList, plain f v = true) (ih : ∀ v r, plain f v = true → VR σ v r → v = r) : a = b := by
  apply Array.ext hs
  intro i h1 h2
  exact ih _ _ (hp _ (by simp)) (h i _ _ (by simp [h1]) (by simp [h2]))
theorem plain_eq {σ : Nm} : ∀ (f : Nat) (v r : Value), plain f v = true → VR σ v r → v = r := by
  intro f
  induction f with
  | zero => intro v r h; simp [plain] at h
  | succ f ih =>
    intro v r h hv
    cases hv with
    | iface t hv => simp only [plain] at h; rw [ih _ _ h hv]
    | func fn h1 h2 h3 h4 =>
      simp only [plain, Bool.and_eq_true, List.all_eq_true] at h
      rw [ar_eq h1 h2 h.1 ih, ar_eq h3 h4 h.2 ih]
    | agg h1 h2 => simp only [plain, List.all_eq_true] at h; rw [ar_eq h1 h2 h ih]
    | tuple h1 h2 => simp only [plain, List.all_eq_true] at h; rw [ar_eq h1 h2 h ih]
    | ptr => simp [plain] at h
    | slc => simp [plain] at h
    | soft => simp [plain] at h
    | opq => simp [plain] at h
    | _ => rfl
theorem plain_refl {σ : Nm} : ∀ (f : Nat) (v : Value), plain f v = true → VR σ v v := by
  intro f
  induction f with
  | zero => intro v h; simp [plain] at h
  | succ f ih =>
    have key : ∀ (cs : Array Value), (∀ v ∈ cs.toList, plain f v = true) → ∀ (i : Nat) (v r : Value), cs[i]? = some v → cs[i]? = some r → VR σ v r := by
      intro cs h i v r hv hr
      rw [hv] at hr
      cases hr
      exact ih v (h v (Array.mem_toList_iff.2 (Array.mem_of_getElem? hv)))
    intro v h
    cases v with
    | bool b => exact .bool b
    | int k n => exact .int k n
    | float k n => exact .float k n
    | complex k a b => exact .complex k a b
    | string s => exact .string s
    | nilFunc => exact .nilFunc
    | nilIface => exact .nilIface
    | pointer a => cases a with
      | none => exact .nilp
      | some a => simp [plain] at h
    | slice a l c => cases a with
      | none => exact .nils l c
      | some a => simp [plain] at h
    | map a => cases a with
      | none => exact .nilMap
      | some a => simp [plain] at h
    | chan a => cases a with
      | none => exact .nilChan
      | some a => simp [plain] at h
    | iface t v => exact .iface t (ih v (by simpa [plain] using h))
    | func fn a c =>
      simp only [plain, Bool.and_eq_true, List.all_eq_true] at h
      exact .func fn rfl (key a h.1) rfl (key c h.2)
    | agg cs => simp only [plain, List.all_eq_true] at h; exact .agg rfl (key cs h)
    | tuple cs => simp only [plain, List.all_eq_true] at h; exact .tuple rfl (key cs h)

/-- The value of one cell. -/
def flat : Value → Bool
  | .agg _ | .tuple _ => false
  | _ => true
theorem VR.flat {σ : Nm} {v r : Value} (h : VR σ v r) : flat r = flat v := by
  cases h with
  | @opq n p h hf => cases hx : p.v <;> rw [hx] at hf <;> first | rfl | cases hf
  | _ => rfl

/-- Blocks that stay as they are, and what they hold. -/
structure Prot where
  dom : Nat → Prop
  obj : Nat → Obj
  /-- What is named ahead. -/
  ext : Nat → Option Place
instance : CoeFun Prot (fun _ => Nat → Prop) := ⟨Prot.dom⟩

structure Rel (P : Program) (Fr : Prot) (G : Nat) (σ : Nm) (H : Tr) (w : World) : Prop where
  glob : ∀ g, g < G → ∃ c, σ g = some ⟨g, 0, c, .nilFunc⟩
  blk : ∀ n B, H.get n = some B → ∃ p c fz, σ n = some p ∧ w.heap[p.b]? = some (.cells c B.elem fz) ∧ (∀ o, o < c.size → ¬ (fz.1 ≤ o ∧ o < fz.2)) ∧
    p.base + B.cells.length ≤ c.size ∧ (B.soft = true → c.size = p.base + p.cap * P.cellsOf B.elem) ∧
    (∀ o v, B.cells[o]? = some v → ∃ r, c[p.base + o]? = some r ∧ VR σ v r) ∧ (B.ro = false → ¬ Fr p.b)
  apart : ∀ n m B C p q, H.get n = some B → H.get m = some C → n ≠ m → σ n = some p → σ m = some q → p.b = q.b →
    B.soft = false ∧ C.soft = false ∧ (p.base + B.cells.length ≤ q.base ∨ q.base + C.cells.length ≤ p.base)
  prot : ∀ b, Fr b → w.heap[b]? = some (Fr.obj b)
  ext : ∀ n p, Fr.ext n = some p → σ n = some p
theorem Rel.lt {P : Program} {Fr : Prot} {G : Nat} {σ : Nm} {H : Tr} {w : World} (h : Rel P Fr G σ H w) (b : Nat) (hb : Fr b) : b < w.heap.size := by
  rcases Nat.lt_or_ge b w.heap.size with x | x
  · exact x
  · have := h.prot b hb; simp [Array.getElem?_eq_none x] at this

/-- What stays of a world. -/
structure Out (Fr : Prot) (w w' : World) : Prop where
  os : w'.os = w.os
  tape : w'.tape = w.tape
  output : w'.output = w.output
  size : w.heap.size ≤ w'.heap.size
  block : ∀ b, Fr b → w'.heap[b]? = w.heap[b]?
theorem Out.refl (Fr : Prot) (w : World) : Out Fr w w := ⟨rfl, rfl, rfl, Nat.le_refl _, fun _ _ => rfl⟩
theorem Out.trans {Fr : Prot} {a b c : World} (h : Out Fr a b) (k : Out Fr b c) : Out Fr a c :=
  ⟨k.os.trans h.os, k.tape.trans h.tape, k.output.trans h.output, Nat.le_trans h.size k.size, fun i hi => (k.block i hi).trans (h.block i hi)⟩

structure Aft (σ τ : Nm) (a b : Nat) : Prop where
  keep : Sub σ τ
  dom : ∀ n p, τ n = some p → σ n = some p ∨ Fs a b n
theorem Aft.refl (σ : Nm) (a b : Nat) : Aft σ σ a b := ⟨.refl _, fun _ _ h => .inl h⟩
theorem Aft.trans {σ τ υ : Nm} {a b c : Nat} (h : Aft σ τ a b) (k : Aft τ υ b c) (hab : a ≤ b) (hbc : b ≤ c) : Aft σ υ a c :=
  ⟨h.keep.trans k.keep, fun n p x => by
    rcases k.dom n p x with y | y
    · rcases h.dom n p y with z | z
      · exact .inl z
      · exact .inr ⟨z.1, Nat.lt_of_lt_of_le z.2 hbc⟩
    · exact .inr ⟨Nat.le_trans hab y.1, y.2⟩⟩
theorem Aft.none {σ τ : Nm} {a b n : Nat} (h : Aft σ τ a b) (hn : σ n = none) (hf : ¬ Fs a b n) : τ n = none := by
  cases hx : τ n with
  | none => rfl
  | some p =>
    rcases h.dom n p hx with x | x
    · rw [hn] at x; cases x
    · exact (hf x).elim

def runS {β : Type} (P : Program) (S : Sem β) (w : World) (K : β → World → Prop) : Prop := ∃ y w', S.run P w = .ok y w' ∧ K y w'

/-- What the machine does, the model does. -/
def Sim {α β : Type} (P : Program) (Fr : Prot) (G : Nat) (σ : Nm) (e : Ev α) (A : Nm → α → β → Prop) (run : World → (β → World → Prop) → Prop) : Prop :=
  ∀ H s r w, e H s = some r → All r.need → Rel P Fr G σ H w → (∀ n, Fs s.name r.sup.name n → σ n = none) → G ≤ s.name →
    run w fun y w' => ∃ τ, Aft σ τ s.name r.sup.name ∧ Rel P Fr G τ r.hp w' ∧ Out Fr w w' ∧ A τ r.val y

section
variable {P : Program} {Fr : Prot} {G : Nat} {σ : Nm}
theorem sim_pure {α β : Type} {A : Nm → α → β → Prop} {a : α} {y : β} (h : A σ a y) : Sim P Fr G σ (Ev.pure a) A (runS P (Sem.pure y)) := by
  intro H s r w hr hn hR hf hG
  simp only [Ev.pure, Option.some.injEq] at hr
  subst hr
  exact ⟨y, w, rfl, σ, .refl .., hR, .refl .., h⟩
theorem sim_fail {α β : Type} {A : Nm → α → β → Prop} {run : World → (β → World → Prop) → Prop} : Sim P Fr G σ (Ev.fail (α := α)) A run := by
  intro H s r w hr; simp [Ev.fail] at hr

def Mono {α : Type} (e : Ev α) : Prop := ∀ H s r, e H s = some r → s.name ≤ r.sup.name
theorem Framed.mono {α : Type} {e : Ev α} (h : Framed e) : Mono e := fun H s r hr => (h H s r hr).1

/-- One behind the other: 'glue' tells how the model's two runs join. -/
theorem sim_bind' {α β γ δ : Type} {e : Ev α} {f : α → Ev γ} {A : Nm → α → β → Prop} {B : Nm → γ → δ → Prop}
    {run₁ : World → (β → World → Prop) → Prop} {run₂ : β → World → (δ → World → Prop) → Prop} {run : World → (δ → World → Prop) → Prop}
    (me : Mono e) (mf : ∀ a, Mono (f a)) (h₁ : Sim P Fr G σ e A run₁) (h₂ : ∀ τ a y, Sub σ τ → A τ a y → Sim P Fr G τ (f a) B (run₂ y))
    (mono₁ : ∀ w K K', (∀ y w', K y w' → K' y w') → run₁ w K → run₁ w K')
    (mono₂ : ∀ y w K K', (∀ y w', K y w' → K' y w') → run₂ y w K → run₂ y w K')
    (glue : ∀ w K, run₁ w (fun y w' => run₂ y w' K) → run w K) : Sim P Fr G σ (e.bind f) B run := by
  intro H s r w hr hn hR hf hG
  unfold Ev.bind at hr
  cases hr₁ : e H s with
  | none => simp [hr₁] at hr
  | some r₁ =>
    obtain ⟨a, H₁, s₁, l₁, p₁⟩ := r₁
    simp only [hr₁] at hr
    cases hr₂ : f a H₁ s₁ with
    | none => simp [hr₂] at hr
    | some r₂ =>
      obtain ⟨b, H₂, s₂, l₂, p₂⟩ := r₂
      simp only [hr₂, Option.some.injEq] at hr
      subst hr
      have m₁ : s.name ≤ s₁.name := me _ _ _ hr₁
      have m₂ : s₁.name ≤ s₂.name := mf _ _ _ _ hr₂
      refine glue w _ (mono₁ w _ _ (fun y w₁ hy => ?_) (h₁ H s _ w hr₁ (all_app hn).1 hR (fun n hx => hf n ⟨hx.1, Nat.lt_of_lt_of_le hx.2 m₂⟩) hG))
      obtain ⟨τ, ha, hR₁, ho, hA⟩ := hy
      refine mono₂ y w₁ _ _ (fun z w₂ hz => ?_) (h₂ τ a y ha.keep hA H₁ s₁ _ w₁ hr₂ (all_app hn).2 hR₁ (fun n hx => ha.none (hf n ⟨Nat.le_trans m₁ hx.1, hx.2⟩) (fun q => by have h1 : n < s₁.name := q.2; have h2 : s₁.name ≤ n := hx.1; omega)) (Nat.le_trans hG m₁))
      obtain ⟨υ, hb, hR₂, ho₂, hB⟩ := hz
      exact ⟨υ, ha.trans hb m₁ m₂, hR₂, ho.trans ho₂, hB⟩

theorem runS_mono {β : Type} {S : Sem β} {w : World} {K K' : β → World → Prop} (h : ∀ y w', K y w' → K' y w') (hS : runS P S w K) : runS P S w K' :=
  let ⟨y, w', e, k⟩ := hS; ⟨y, w', e, h y w' k⟩
theorem runS_bind {β δ : Type} {S : Sem β} {g : β → Sem δ} {w : World} {K : δ → World → Prop} (h : runS P S w fun y w' => runS P (g y) w' K) : runS P (S.bind g) w K := by
  obtain ⟨y, w', e, z, w'', e', k⟩ := h
  exact ⟨z, w'', by rw [Sem.run_bind', e]; exact e', k⟩
theorem sim_bind {α β γ δ : Type} {e : Ev α} {f : α → Ev γ} {A : Nm → α → β → Prop} {B : Nm → γ → δ → Prop} {S : Sem β} {g : β → Sem δ}
    (me : Mono e) (mf : ∀ a, Mono (f a)) (h₁ : Sim P Fr G σ e A (runS P S)) (h₂ : ∀ τ a y, Sub σ τ → A τ a y → Sim P Fr G τ (f a) B (runS P (g y))) :
    Sim P Fr G σ (e.bind f) B (runS P (S.bind g)) :=
  sim_bind' me mf h₁ h₂ (fun _ _ _ h => runS_mono h) (fun _ _ _ _ h => runS_mono h) (fun _ _ => runS_bind)
end
end Go.Proofs.YtofdiilfedjhkaaDoor.E
end

section
/- Reads, writes, new blocks: the machine's and the model's. -/
set_option linter.unusedVariables false
set_option linter.unusedSimpArgs false
namespace Go.Proofs.YtofdiilfedjhkaaDoor.E
section
variable {P : Program} {Fr : Prot} {G : Nat} {σ : Nm}

theorem add_none (b o i : Nat) : Addr.add ⟨b, o, none⟩ i = ⟨b, o + i, none⟩ := by
  unfold Addr.add; split
  · subst_vars; rfl
  · rfl

theorem cell_some {H : Tr} {n o : Nat} {v : Value} (h : cell H n o = some v) : ∃ B, H.get n = some B ∧ B.cells[o]? = some v := by
  unfold cell at h
  cases hB : H.get n with
  | none => simp [hB] at h
  | some B => exact ⟨B, rfl, by simpa [hB] using h⟩

theorem sim_rd {n o : Nat} {p : Place} (hσ : σ n = some p) : Sim P Fr G σ (rd n o) VR (runS P (load ⟨p.b, p.base + o, none⟩)) := by
  intro H s r w hr hn hR hf hG
  unfold rd at hr
  cases hc : cell H n o with
  | none => simp [hc] at hr
  | some v =>
    simp only [hc, Option.some.injEq] at hr
    subst hr
    obtain ⟨B, hB, hv⟩ := cell_some hc
    obtain ⟨q, c, fz, hq, hw, hz, hl, hs, hcells, hro⟩ := hR.blk n B hB
    rw [hσ] at hq; cases hq
    obtain ⟨x, hx, hvx⟩ := hcells o v hv
    have : w.cell? ⟨p.b, p.base + o, none⟩ = some x := by simp [World.cell?, hw, hx]
    exact ⟨x, w, by simp [load, Sem.run, this], σ, .refl .., hR, .refl .., hvx⟩

theorem sim_rds {n : Nat} {p : Place} (hσ : σ n = some p) : ∀ (k o i : Nat) (off : Nat) (acc : Array Value), p.base + o = off + i →
    Sim P Fr G σ (rds n o k) (fun τ a (y : Array Value) => ∃ l, y = acc ++ l.toArray ∧ LR τ a l) (runS P (loadCellsFrom ⟨p.b, off, none⟩ i k acc)) := by
  intro k
  induction k generalizing σ with
  | zero => intro o i off acc h; exact sim_pure ⟨[], by simp, LR.nil _⟩
  | succ k ih =>
    intro o i off acc h
    unfold rds loadCellsFrom
    refine sim_bind (framed_rd _ _).mono (fun a => (framed_bind (framed_rds _ _ _) fun _ => framed_pure _).mono) (A := VR) ?_ ?_
    · rw [add_none, ← h]; exact sim_rd hσ
    · intro τ a y hs hA
      have := ih (hs _ _ hσ) (o + 1) (i + 1) off (acc.push y) (by omega)
      intro H s r w hr hn hR hf hG
      unfold Ev.bind at hr
      cases h1 : rds n (o + 1) k H s with
      | none => simp [h1] at hr
      | some q =>
        obtain ⟨l, H₁, s₁, lg, p₁⟩ := q
        simp only [h1, Ev.pure, Option.some.injEq] at hr
        subst hr
        obtain ⟨z, w', e, υ, ha, hR', ho, l', hl, hLR⟩ := this H s _ w h1 (all_app hn).1 hR hf hG
        exact ⟨z, w', e, υ, ha, hR', ho, y :: l', by rw [hl]; simp, LR.cons (hA.sub ha.keep) hLR⟩

theorem run_store {w : World} {a : Addr} {v x : Value} (hf : flat v = true) (hc : w.cell? a = some x) (hz : w.frozen? a = false) :
    (store a v).run P w = .ok () (w.setCell a v) := by
  unfold store
  cases v <;> simp_all [Sem.run, flat]

theorem setCell_get {w : World} {b off : Nat} {v : Value} {c : Array Value} {e : TypeId} {fz : Nat × Nat} (h : w.heap[b]? = some (.cells c e fz)) (k : Nat) :
    (w.setCell ⟨b, off, none⟩ v).heap[k]? = if k = b then some (.cells (c.setIfInBounds off v) e fz) else w.heap[k]? := by
  simp only [World.setCell, Array.getElem?_modify]
  by_cases e : b = k
  · subst e; simp [h]
  · simp [e, Ne.symm e, eq_comm]

/-- A cell written on both sides. -/
theorem rel_wr {H : Tr} {w : World} (hR : Rel P Fr G σ H w) {n o : Nat} {v x : Value} {B : Blk} {p : Place} (hσ : σ n = some p) (hB : H.get n = some B) (hro : B.ro = false)
    (ho : o < B.cells.length) (hv : VR σ v x) :
    Rel P Fr G σ (Tr.put (n + 1) H n (some { B with cells := B.cells.set o v })) (w.setCell ⟨p.b, p.base + o, none⟩ x) ∧ Out Fr w (w.setCell ⟨p.b, p.base + o, none⟩ x) := by
  obtain ⟨q, c, fz, hq, hw, hz, hl, hs, hcells, hr⟩ := hR.blk n B hB
  rw [hσ] at hq; cases hq
  have hg := @setCell_get w p.b (p.base + o) x c B.elem fz hw
  have hsize : (w.setCell ⟨p.b, p.base + o, none⟩ x).heap.size = w.heap.size := by simp [World.setCell]
  have hget : ∀ m, (Tr.put (n + 1) H n (some { B with cells := B.cells.set o v })).get m = if m = n then some { B with cells := B.cells.set o v } else H.get m :=
    fun m => Tr.get_put _ _ _ _ _ (Nat.lt_succ_self n)
  refine ⟨⟨hR.glob, fun m C hC => ?_, fun m k C D pm pk hC hD hne hm hk hb => ?_, fun b hb => by rw [hg, if_neg (fun e : b = p.b => hr hro (by rw [← e]; exact hb))]; exact hR.prot b hb, hR.ext⟩, rfl, rfl, rfl, by rw [hsize]; exact Nat.le_refl _, fun b hb => ?_⟩
  · rw [hget] at hC
    by_cases e : m = n
    · subst e
      rw [if_pos rfl] at hC; cases hC
      refine ⟨p, _, fz, hσ, by rw [hg, if_pos rfl], by simpa using hz, by simpa using hl, fun h => by simpa using hs h, fun q u hu => ?_, hr⟩
      simp only [List.getElem?_set] at hu
      by_cases eo : o = q
      · subst eo
        simp [ho] at hu; subst hu
        exact ⟨x, by simp [Array.getElem?_setIfInBounds]; omega, hv⟩
      · rw [if_neg eo] at hu
        obtain ⟨y, hy, hyv⟩ := hcells q u hu
        exact ⟨y, by rw [Array.getElem?_setIfInBounds_ne (by omega)]; exact hy, hyv⟩
    · rw [if_neg e] at hC
      obtain ⟨q, c', fz', hq, hw', hz', hl', hs', hcells', hr'⟩ := hR.blk m C hC
      by_cases eb : q.b = p.b
      · rw [eb, hw] at hw'
        obtain ⟨rfl, ee, rfl⟩ : c = c' ∧ B.elem = C.elem ∧ fz = fz' := by simpa using hw'
        obtain ⟨_, _, hap⟩ := hR.apart m n C B q p hC hB e hq hσ eb
        refine ⟨q, _, fz, hq, by rw [eb, hg, if_pos rfl, ee], by simpa using hz, by simpa using hl', fun h => by simpa using hs' h, fun j u hu => ?_, hr'⟩
        obtain ⟨y, hy, hyv⟩ := hcells' j u hu
        have hj : j < C.cells.length := by
          rcases Nat.lt_or_ge j C.cells.length with hx | hx
          · exact hx
          · simp [List.getElem?_eq_none hx] at hu
        exact ⟨y, by rw [Array.getElem?_setIfInBounds_ne (by omega)]; exact hy, hyv⟩
      · exact ⟨q, c', fz', hq, by rw [hg, if_neg eb]; exact hw', hz', hl', hs', hcells', hr'⟩
  · rw [hget] at hC hD
    have key : ∀ {m : Nat} {C : Blk}, (if m = n then some { B with cells := B.cells.set o v } else H.get m) = some C → ∃ C', H.get m = some C' ∧ C'.cells.length = C.cells.length ∧ C'.soft = C.soft := by
      intro m C h
      by_cases e : m = n
      · rw [if_pos e] at h; cases h; exact ⟨B, e ▸ hB, by simp, rfl⟩
      · rw [if_neg e] at h; exact ⟨C, h, rfl, rfl⟩
    obtain ⟨C', hC', l1, s1⟩ := key hC
    obtain ⟨D', hD', l2, s2⟩ := key hD
    rw [← s1, ← s2, ← l1, ← l2]
    exact hR.apart m k C' D' pm pk hC' hD' hne hm hk hb
  · rw [hg, if_neg (fun e : b = p.b => hr hro (by rw [← e]; exact hb))]

theorem sim_wr {n o : Nat} {p : Place} {v x : Value} (hσ : σ n = some p) (hv : VR σ v x) (hfl : flat v = true) :
    Sim P Fr G σ (wr n o v) (fun _ _ _ => True) (runS P (store ⟨p.b, p.base + o, none⟩ x)) := by
  intro H s r w hr hn hR hf hG
  obtain ⟨B, hB, hro, ho, rfl⟩ := wr_eq hr
  obtain ⟨q, c, fz, hq, hw, hz, hl, hs, hcells, hrr⟩ := hR.blk n B hB
  rw [hσ] at hq; cases hq
  have hlt : p.base + o < c.size := by omega
  have hc : w.cell? ⟨p.b, p.base + o, none⟩ = some c[p.base + o] := by simp [World.cell?, hw, hlt]
  have hfz : w.frozen? ⟨p.b, p.base + o, none⟩ = false := by
    have := hz (p.base + o) hlt
    simp only [World.frozen?, hw]
    simp only [not_and] at this
    simp only [Bool.and_eq_false_iff, decide_eq_false_iff_not]
    by_cases h1 : fz.1 ≤ p.base + o
    · exact .inr (this h1)
    · exact .inl h1
  obtain ⟨hR', hO⟩ := rel_wr hR hσ hB hro ho hv
  exact ⟨(), _, run_store (by rw [hv.flat]; exact hfl) hc hfz, σ, .refl .., hR', hO, trivial⟩

theorem sim_wrs {n : Nat} {p : Place} (hσ : σ n = some p) : ∀ (l l' : List Value) (o i off : Nat), LR σ l l' → (∀ v ∈ l, flat v = true) → p.base + o = off + i →
    Sim P Fr G σ (wrs n o l) (fun _ _ _ => True) (runS P (storeCells ⟨p.b, off, none⟩ l' i)) := by
  intro l
  induction l generalizing σ with
  | nil =>
    intro l' o i off h hfl he
    cases l' with
    | nil => unfold storeCells; exact sim_pure trivial
    | cons a l' => simp [LR] at h
  | cons v l ih =>
    intro l' o i off h hfl he
    cases l' with
    | nil => simp [LR] at h
    | cons x l' =>
      unfold wrs storeCells
      refine sim_bind (framed_wr _ _ _).mono (fun a => (framed_wrs _ _ _).mono) (A := fun _ _ _ => True) ?_ ?_
      · rw [add_none, ← he]
        exact sim_wr hσ (h.2 0 v x (by simp) (by simp)) (hfl v (by simp))
      · intro τ a y hs _
        refine ih (hs _ _ hσ) l' (o + 1) (i + 1) off ?_ (fun u hu => hfl u (by simp [hu])) (by omega)
        exact ⟨by have := h.1; simpa using this, fun j u z hu hz => (h.2 (j + 1) u z (by simpa using hu) (by simpa using hz)).sub hs⟩

/-- A new block on both sides. -/
theorem rel_new {H : Tr} {w : World} (hR : Rel P Fr G σ H w) {n : Nat} (hn : σ n = none) (hG : G ≤ n) {B : Blk} {c : Array Value} (cap : Nat) (fz : Nat × Nat)
    (hz : ∀ o, o < c.size → ¬ (fz.1 ≤ o ∧ o < fz.2)) (hl : B.cells.length ≤ c.size) (hs : B.soft = true → c.size = cap * P.cellsOf B.elem)
    (hc : ∀ (o : Nat) (v : Value), B.cells[o]? = some v → ∃ r, c[o]? = some r ∧ VR σ v r) {w' : World} (hh : w'.heap = w.heap.push (.cells c B.elem fz)) (ho : w'.os = w.os) (ht : w'.tape = w.tape) (hp : w'.output = w.output) :
    ∃ τ, Aft σ τ n (n + 1) ∧ τ n = some ⟨w.heap.size, 0, cap, .nilFunc⟩ ∧ Rel P Fr G τ (Tr.put (n + 1) H n (some B)) w' ∧ Out Fr w w' := by
  let τ : Nm := fun m => if m = n then some ⟨w.heap.size, 0, cap, .nilFunc⟩ else σ m
  have hsub : Sub σ τ := fun m p h => by
    by_cases e : m = n
    · subst e; rw [hn] at h; cases h
    · simp only [τ, if_neg e]; exact h
  have hτ : ∀ m, m ≠ n → τ m = σ m := fun m e => by simp only [τ, if_neg e]
  have hτn : τ n = some ⟨w.heap.size, 0, cap, .nilFunc⟩ := by simp only [τ, if_pos rfl]
  have hget : ∀ m, (Tr.put (n + 1) H n (some B)).get m = if m = n then some B else H.get m := fun m => Tr.get_put _ _ _ _ _ (Nat.lt_succ_self n)
  have hold : ∀ k, k < w.heap.size → w'.heap[k]? = w.heap[k]? := fun k hk => by rw [hh, Array.getElem?_push, if_neg (by omega)]
  have hblk : ∀ m C, H.get m = some C → ∃ p, σ m = some p ∧ p.b < w.heap.size := fun m C hC => by
    obtain ⟨p, c, fz, hp, hw, _⟩ := hR.blk m C hC
    refine ⟨p, hp, ?_⟩
    rcases Nat.lt_or_ge p.b w.heap.size with h' | h'
    · exact h'
    · simp [Array.getElem?_eq_none h'] at hw
  refine ⟨τ, ⟨hsub, fun m p h => ?_⟩, hτn, ⟨fun g hg => ?_, fun m C hC => ?_, fun m k C D pm pk hC hD hne hm hk hb => ?_, fun b hb => ?_, fun m p h => hsub m p (hR.ext m p h)⟩, ho, ht, hp, by rw [hh]; simp, fun b hb => hold b (hR.lt b hb)⟩
  · by_cases e : m = n
    · exact .inr ⟨by omega, by omega⟩
    · rw [hτ m e] at h; exact .inl h
  · rw [hτ g (by omega)]; exact hR.glob g hg
  · rw [hget] at hC
    by_cases e : m = n
    · subst e
      rw [if_pos rfl] at hC; cases hC
      refine ⟨_, c, fz, hτn, by rw [hh]; simp, hz, by simpa using hl, fun h => by simpa using hs h, fun o v hv => ?_, fun _ hb => absurd (hR.lt _ hb) (Nat.lt_irrefl _)⟩
      obtain ⟨r, hr, hvr⟩ := hc o v hv
      exact ⟨r, by simpa using hr, hvr.sub hsub⟩
    · rw [if_neg e] at hC
      obtain ⟨q, c', fz', hq, hw', hz', hl', hs', hcells', hr'⟩ := hR.blk m C hC
      obtain ⟨q', hq', hlt⟩ := hblk m C hC
      rw [hq] at hq'; cases hq'
      refine ⟨q, c', fz', by rw [hτ m e]; exact hq, by rw [hold _ hlt]; exact hw', hz', hl', hs', fun o v hv => ?_, hr'⟩
      obtain ⟨r, hr, hvr⟩ := hcells' o v hv
      exact ⟨r, hr, hvr.sub hsub⟩
  · rw [hget] at hC hD
    by_cases em : m = n
    · subst em
      have ek : k ≠ m := Ne.symm hne
      rw [if_neg ek] at hD
      rw [hτ k ek] at hk
      obtain ⟨q, hq, hlt⟩ := hblk k D hD
      rw [hk] at hq; cases hq
      rw [hτn] at hm; cases hm
      simp only at hb; omega
    · rw [if_neg em] at hC
      rw [hτ m em] at hm
      by_cases ek : k = n
      · subst ek
        obtain ⟨q, hq, hlt⟩ := hblk m C hC
        rw [hm] at hq; cases hq
        rw [hτn] at hk; cases hk
        simp only at hb; omega
      · rw [if_neg ek] at hD
        rw [hτ k ek] at hk
        exact hR.apart m k C D pm pk hC hD hne hm hk hb
  · rw [hold b (hR.lt b hb)]; exact hR.prot b hb

theorem sim_new {B : Blk} {c : Array Value} (hs : B.soft = false) (hc : LR σ B.cells c.toList) :
    Sim P Fr G σ (new B) (fun τ n (a : Addr) => ∃ b cap, τ n = some ⟨b, 0, cap, .nilFunc⟩ ∧ a = ⟨b, 0, none⟩) (runS P (newRow B.elem c)) := by
  intro H s r w hr hn hR hf hG
  rw [new_eq, Option.some.injEq] at hr
  subst hr
  obtain ⟨τ, h1, h2, h3, h4⟩ := rel_new (w' := { w with heap := w.heap.push (.cells c B.elem) }) hR (hf s.name ⟨Nat.le_refl _, Nat.lt_succ_self _⟩) hG (B := B) (c := c) 0 (0, 0) (by intro o _; simp) (by have := hc.1; simp at this; omega) (by simp [hs])
    (fun o v hv => by obtain ⟨r, hr, x⟩ := hc.get hv; exact ⟨r, by simpa using hr, x⟩) rfl rfl rfl rfl
  exact ⟨⟨w.heap.size, 0, none⟩, _, by simp [newRow, newObj, Sem.run, pure, bind, Sem.bind], τ, h1, h3, h4, _, _, h2, rfl⟩
end
end Go.Proofs.YtofdiilfedjhkaaDoor.E
end

section
/- Operations without addresses; loads, stores, new variables; places of fields and elements. -/
set_option linter.unusedVariables false
set_option linter.unusedSimpArgs false
namespace Go.Proofs.YtofdiilfedjhkaaDoor.E

/-- What a piece of the model's text answers without memory. -/
def runPlain {α : Type} (P : Program) : Sem α → Option α
  | .pure a => some a
  | .program k => runPlain P (k P)
  | .mark _ k => runPlain P k
  | _ => none
theorem run_plain {α : Type} (P : Program) : ∀ (S : Sem α) (a : α), runPlain P S = some a → ∀ w, S.run P w = .ok a w := by
  intro S
  induction S with
  | pure a => intro b h w; simp only [runPlain, Option.some.injEq] at h; subst h; rfl
  | program k ih => intro b h w; simp only [runPlain] at h; exact ih P b h w
  | mark m k ih => intro b h w; simp only [runPlain] at h; exact ih b h w
  | _ => intro b h; simp [runPlain] at h

inductive NR where
  | val (v : Value)
  | enter (f : FuncId) (args : Array Value)

def NRel (σ : Nm) : NR → Next → Prop
  | .val v, .value r => VR σ v r
  | .val v, .skip => v = undef
  | .enter f a, .enter g b => f = g ∧ AR σ a b
  | _, _ => False

def plainNext : Next → Ev NR
  | .value v => match plain 6 v with | true => .pure (.val v) | false => .fail
  | .skip => .pure (.val undef)
  | .enter f args => match args.toList.all (plain 6) with | true => .pure (.enter f args) | false => .fail
  | _ => .fail
def plainE (P : Program) (S : Sem Next) : Ev NR := ask.bind fun
  | .val v => match plain 6 v with
    | true => (need (runPlain P S = some (.value v))).bind fun _ => .pure (.val v)
    | false => .fail
  | _ => match runPlain P S with
    | some n => plainNext n
    | none => .fail

section
variable {P : Program} {Fr : Prot} {G : Nat} {σ : Nm}

theorem ar_plain {σ : Nm} {a : Array Value} {f : Nat} (h : a.toList.all (plain f) = true) : AR σ a a := by
  refine ⟨rfl, fun i v r hv hr => ?_⟩
  rw [hv] at hr; cases hr
  simp only [List.all_eq_true] at h
  exact plain_refl f v (h v (Array.mem_toList_iff.2 (Array.mem_of_getElem? hv)))
theorem framed_plainNext (n : Next) : Framed (plainNext n) := by
  unfold plainNext
  split
  · split <;> first | exact framed_pure _ | exact framed_fail
  · exact framed_pure _
  · split <;> first | exact framed_pure _ | exact framed_fail
  · exact framed_fail
theorem framed_plainE (P : Program) (S : Sem Next) : Framed (plainE P S) := by
  refine framed_bind framed_ask fun x => ?_
  split
  · split
    · exact framed_bind (framed_need _) fun _ => framed_pure _
    · exact framed_fail
  · split
    · exact framed_plainNext _
    · exact framed_fail

theorem sim_q {α β δ : Type} {e : Ev α} {A : Nm → α → δ → Prop} {S : Sem β} {g : β → Sem δ} {d : β} (hq : ∀ w, S.run P w = .ok d w) (h : Sim P Fr G σ e A (runS P (g d))) :
    Sim P Fr G σ e A (runS P (S.bind g)) := by
  intro H s r w hr hn hR hf hG
  obtain ⟨y, w', e, k⟩ := h H s r w hr hn hR hf hG
  exact ⟨y, w', by rw [Sem.run_bind', hq]; exact e, k⟩
/-- An answer that the model gives without memory. -/
theorem sim_run {α δ : Type} {a : α} {A : Nm → α → δ → Prop} {S : Sem δ} {d : δ} (hq : ∀ w, S.run P w = .ok d w) (h : A σ a d) : Sim P Fr G σ (Ev.pure a) A (runS P S) := by
  intro H s r w hr hn hR hf hG
  simp only [Ev.pure, Option.some.injEq] at hr
  subst hr
  exact ⟨d, w, hq w, σ, .refl .., hR, .refl .., h⟩
theorem sim_ask {α β : Type} {f : Ora → Ev α} {A : Nm → α → β → Prop} {run : World → (β → World → Prop) → Prop} (h : ∀ x, Sim P Fr G σ (f x) A run) : Sim P Fr G σ (ask.bind f) A run := by
  intro H s r w hr hn hR hf hG
  unfold Ev.bind at hr
  obtain ⟨n, l⟩ := s
  have key : ∀ x l', ask H ⟨n, l⟩ = some ⟨x, H, ⟨n, l'⟩, [], []⟩ → run w fun y w' => ∃ τ, Aft σ τ n r.sup.name ∧ Rel P Fr G τ r.hp w' ∧ Out Fr w w' ∧ A τ r.val y := by
    intro x l' hx
    rw [hx] at hr
    simp only at hr
    cases h1 : f x H ⟨n, l'⟩ with
    | none => simp [h1] at hr
    | some q => obtain ⟨a, H₁, s₁, lg, p₁⟩ := q; simp only [h1, Option.some.injEq] at hr; subst hr; exact h _ H ⟨n, l'⟩ ⟨a, H₁, s₁, lg, p₁⟩ w h1 (all_app hn).2 hR hf hG
  cases l with
  | nil => exact key _ _ rfl
  | cons x l =>
    obtain ⟨k, x⟩ := x
    cases k with
    | zero => exact key _ _ rfl
    | succ k => exact key _ _ rfl
theorem sim_need {α β : Type} {p : Prop} {e : Ev α} {A : Nm → α → β → Prop} {run : World → (β → World → Prop) → Prop} (h : p → Sim P Fr G σ e A run) : Sim P Fr G σ ((need p).bind fun _ => e) A run := by
  intro H s r w hr hn hR hf hG
  unfold Ev.bind need at hr
  simp only at hr
  cases h1 : e H s with
  | none => simp [h1] at hr
  | some q => obtain ⟨a, H₁, s₁, lg, p₁⟩ := q; simp only [h1, Option.some.injEq] at hr; subst hr; exact h ((all_app (a := [p]) hn).1 p (by simp)) H s ⟨a, H₁, s₁, lg, p₁⟩ w h1 (all_app (a := [p]) hn).2 hR hf hG

theorem sim_plainNext {S : Sem Next} {n : Next} (h : ∀ w, S.run P w = .ok n w) : Sim P Fr G σ (plainNext n) NRel (runS P S) := by
  cases n with
  | value v =>
    unfold plainNext
    simp only
    cases hp : plain 6 v with
    | true => exact sim_run h (plain_refl 6 v hp)
    | false => exact sim_fail
  | skip => exact sim_run h rfl
  | enter f args =>
    unfold plainNext
    simp only
    cases hp : args.toList.all (plain 6) with
    | true => exact sim_run h ⟨rfl, ar_plain hp⟩
    | false => exact sim_fail
  | _ => exact sim_fail
theorem sim_plainE {S : Sem Next} : Sim P Fr G σ (plainE P S) NRel (runS P S) := by
  refine sim_ask fun x => ?_
  split
  · rename_i v
    cases hp : plain 6 v with
    | true => exact sim_need fun hn => sim_run (run_plain P _ _ hn) (plain_refl 6 v hp)
    | false => exact sim_fail
  · cases hn : runPlain P S with
    | some n => exact sim_plainNext (run_plain P _ _ hn)
    | none => exact sim_fail

/-! ### Types -/
def isAggD : TypeDesc → Bool
  | .struct _ | .array _ _ => true
  | _ => false
theorem run_underlying {t : TypeId} {d : TypeDesc} (h : P.underlying t = some d) (w : World) : (underlying t).run P w = .ok d w := by
  simp [underlying, program, Sem.run, bind, Sem.bind, pure, h]
theorem run_typeInfo {t : TypeId} {i : TypeInfo} (h : P.info? t = some i) (w : World) : (typeInfo t).run P w = .ok i w := by
  simp [typeInfo, program, Sem.run, bind, Sem.bind, pure, h]
theorem run_sizeOf {t : TypeId} {i : TypeInfo} (h : P.info? t = some i) (w : World) : (sizeOf t).run P w = .ok i.size w := by
  simp [sizeOf, Sem.run_bind, run_typeInfo h, pure, Sem.run]
theorem run_zero {t : TypeId} {i : TypeInfo} {z : Value} (h : P.info? t = some i) (hz : i.zero = some z) (w : World) : (zeroValue t).run P w = .ok z w := by
  simp [zeroValue, Sem.run_bind, run_typeInfo h, hz, pure, Sem.run]
theorem run_isAgg {t : TypeId} {d : TypeDesc} (h : P.underlying t = some d) (w : World) : (isAgg t).run P w = .ok (isAggD d) w := by
  unfold isAgg
  rw [show (underlying t >>= _) = (underlying t).bind _ from rfl, Sem.run_bind', run_underlying h]
  cases d <;> rfl

/-! ### load, store -/
def loadE (P : Program) (t : TypeId) (n o : Nat) : Ev Value :=
  match P.underlying t, P.info? t with
  | some d, some i => match isAggD d with
    | true => (rds n o i.size).bind fun l => .pure (.agg l.toArray)
    | false => rd n o
  | _, _ => .fail
theorem framed_loadE (P : Program) (t : TypeId) (n o : Nat) : Framed (loadE P t n o) := by
  unfold loadE
  split
  · split
    · exact framed_bind (framed_rds _ _ _) fun _ => framed_pure _
    · exact framed_rd _ _
  · exact framed_fail
/-- Behind an answer only its form turns. -/
theorem sim_map {α β γ δ : Type} {e : Ev α} {f : α → γ} {A : Nm → α → β → Prop} {B : Nm → γ → δ → Prop} {S : Sem β} {g : β → δ}
    (h : Sim P Fr G σ e A (runS P S)) (hA : ∀ τ a y, Sub σ τ → A τ a y → B τ (f a) (g y)) :
    Sim P Fr G σ (e.bind fun a => .pure (f a)) B (runS P (S.bind fun y => Sem.pure (g y))) := by
  intro H s r w hr hn hR hf hG
  unfold Ev.bind at hr
  cases h1 : e H s with
  | none => simp [h1] at hr
  | some q =>
    obtain ⟨a, H₁, s₁, lg, p₁⟩ := q
    simp only [h1, Ev.pure, Option.some.injEq] at hr
    subst hr
    obtain ⟨y, w', e', τ, ha, hR', ho, k⟩ := h H s _ w h1 (all_app hn).1 hR hf hG
    exact ⟨g y, w', by rw [Sem.run_bind', e']; rfl, τ, ha, hR', ho, hA _ _ _ ha.keep k⟩
theorem sim_loadE {t : TypeId} {n o : Nat} {p : Place} (hσ : σ n = some p) : Sim P Fr G σ (loadE P t n o) VR (runS P (loadVar t ⟨p.b, p.base + o, none⟩)) := by
  unfold loadE
  split
  · rename_i d i hd hi
    unfold loadVar
    refine sim_q (run_isAgg hd) ?_
    cases h : isAggD d with
    | true =>
      refine sim_q (run_sizeOf hi) ?_
      refine sim_map (A := fun τ a (y : Array Value) => ∃ l, y = #[] ++ l.toArray ∧ LR τ a l) (sim_rds hσ i.size o 0 _ #[] (by omega)) ?_
      rintro τ a y _ ⟨l, rfl, hl⟩
      simp only [Array.empty_append]
      exact .agg (hl.array).1 (hl.array).2
    | false => exact sim_rd hσ
  · exact sim_fail

theorem VR.cells {v r : Value} (h : VR σ v r) : LR σ v.cells.toList r.cells.toList := by
  cases h with
  | agg h1 h2 => exact AR.list ⟨h1, h2⟩
  | bool b => exact LR.cons (.bool b) (.nil _)
  | int k n => exact LR.cons (.int k n) (.nil _)
  | float k n => exact LR.cons (.float k n) (.nil _)
  | complex k n m => exact LR.cons (.complex k n m) (.nil _)
  | string s => exact LR.cons (.string s) (.nil _)
  | nilp => exact LR.cons .nilp (.nil _)
  | ptr h => exact LR.cons (.ptr h) (.nil _)
  | nils l c => exact LR.cons (.nils l c) (.nil _)
  | slc h hc => exact LR.cons (.slc h hc) (.nil _)
  | soft h hc hl => exact LR.cons (.soft h hc hl) (.nil _)
  | nilFunc => exact LR.cons .nilFunc (.nil _)
  | nilIface => exact LR.cons .nilIface (.nil _)
  | nilMap => exact LR.cons .nilMap (.nil _)
  | nilChan => exact LR.cons .nilChan (.nil _)
  | @opq n p h hf =>
    have e : p.v.cells = #[p.v] := by cases hx : p.v <;> rw [hx] at hf <;> first | rfl | cases hf
    rw [e]
    exact LR.cons (.opq h hf) (.nil _)
  | iface t h => exact LR.cons (.iface t h) (.nil _)
  | func f h1 h2 h3 h4 => exact LR.cons (.func f h1 h2 h3 h4) (.nil _)
  | tuple h1 h2 => exact LR.cons (.tuple h1 h2) (.nil _)

def storeE (P : Program) (t : TypeId) (n o : Nat) (v : Value) : Ev Unit :=
  match P.info? t with
  | some i => match v.cells.toList.length == i.size, v.cells.toList.all flat with
    | true, true => wrs n o v.cells.toList
    | _, _ => .fail
  | _ => .fail
theorem framed_storeE (P : Program) (t : TypeId) (n o : Nat) (v : Value) : Framed (storeE P t n o v) := by
  unfold storeE
  split
  · split <;> first | exact framed_wrs _ _ _ | exact framed_fail
  · exact framed_fail
theorem sim_storeE {t : TypeId} {n o : Nat} {p : Place} {v r : Value} (hσ : σ n = some p) (hv : VR σ v r) :
    Sim P Fr G σ (storeE P t n o v) (fun _ _ _ => True) (runS P (storeVar t ⟨p.b, p.base + o, none⟩ r)) := by
  unfold storeE
  split
  · rename_i i hi
    split
    · rename_i h1 h2
      unfold storeVar
      refine sim_q (run_sizeOf hi) ?_
      have hl := hv.cells
      have h1' : ¬ (r.cells.size ≠ i.size) := by
        have := hl.1
        simp at h1 this
        simp; omega
      rw [if_neg h1']
      exact sim_wrs hσ _ _ o 0 _ hl (List.all_eq_true.1 h2) (by omega)
    · exact sim_fail
  · exact sim_fail

def newE (t : TypeId) (v : Value) : Ev Value := (new ⟨v.cells.toList, t, false, false⟩).bind fun n => .pure (.pointer (some ⟨n, 0, none⟩))
theorem framed_newE (t : TypeId) (v : Value) : Framed (newE t v) := framed_bind (framed_new _) fun _ => framed_pure _
theorem sim_newE {t : TypeId} {v r : Value} (hv : VR σ v r) : Sim P Fr G σ (newE t v) VR (runS P ((newVar t r).bind fun a => Sem.pure (.pointer (some a)))) := by
  refine sim_map (A := fun τ n (a : Addr) => ∃ b cap, τ n = some ⟨b, 0, cap, .nilFunc⟩ ∧ a = ⟨b, 0, none⟩) ?_ ?_
  · unfold newVar
    exact sim_new (B := ⟨v.cells.toList, t, false, false⟩) rfl hv.cells
  · rintro τ n a _ ⟨b, cap, h, rfl⟩
    have := VR.ptr (o := 0) h
    simpa using this
end
end Go.Proofs.YtofdiilfedjhkaaDoor.E
end

section
/- Structs and rows built; places of fields and elements; slices; what may be nil. -/
set_option linter.unusedVariables false
set_option linter.unusedSimpArgs false
namespace Go.Proofs.YtofdiilfedjhkaaDoor.E
section
variable {P : Program} {Fr : Prot} {G : Nat} {σ : Nm}

/-! ### build -/
def PR (σ : Nm) (a b : List (Nat × Value)) : Prop := a.length = b.length ∧ ∀ (i : Nat) (x y : Nat × Value), a[i]? = some x → b[i]? = some y → x.1 = y.1 ∧ VR σ x.2 y.2
theorem AR.set {a b : Array Value} (h : AR σ a b) (i : Nat) {v r : Value} (hv : VR σ v r) : AR σ (a.setIfInBounds i v) (b.setIfInBounds i r) := by
  refine ⟨by simp [h.1], fun j x y hx hy => ?_⟩
  rw [Array.getElem?_setIfInBounds] at hx hy
  by_cases e : i = j
  · rw [if_pos e] at hx hy
    by_cases hi : i < a.size
    · rw [if_pos hi] at hx; rw [if_pos (h.1 ▸ hi)] at hy
      cases hx; cases hy; exact hv
    · rw [if_neg hi] at hx; cases hx
  · rw [if_neg e] at hx hy; exact h.2 j x y hx hy
theorem fold_rel (off : Nat) : ∀ (l l' : List Value) (k : Nat) (a b : Array Value), LR σ l l' → AR σ a b →
    AR σ ((l.zipIdx k).foldl (fun cs (c, j) => cs.setIfInBounds (off + j) c) a) ((l'.zipIdx k).foldl (fun cs (c, j) => cs.setIfInBounds (off + j) c) b) := by
  intro l
  induction l with
  | nil => intro l' k a b h hab; cases l' with
    | nil => exact hab
    | cons => simp [LR] at h
  | cons v l ih => intro l' k a b h hab; cases l' with
    | nil => simp [LR] at h
    | cons r l' =>
      simp only [List.zipIdx_cons, List.foldl_cons]
      exact ih l' (k + 1) _ _ ⟨by have := h.1; simpa using this, fun i x y hx hy => h.2 (i + 1) x y (by simpa using hx) (by simpa using hy)⟩ (hab.set _ (h.2 0 v r (by simp) (by simp)))
theorem afold (off : Nat) (c : Array Value) (a : Array Value) : c.zipIdx.foldl (fun cs (x, j) => cs.setIfInBounds (off + j) x) a = (c.toList.zipIdx 0).foldl (fun cs (x, j) => cs.setIfInBounds (off + j) x) a := by
  rw [← Array.foldl_toList]; simp [Array.toList_zipIdx]
theorem fill_rel (place : Nat → Option (Nat × Nat)) : ∀ (ps qs : List (Nat × Value)) (a b c : Array Value), PR σ ps qs → AR σ a b → Instr.fill place a ps = some c →
    ∃ d, Instr.fill place b qs = some d ∧ AR σ c d := by
  intro ps
  induction ps with
  | nil => intro qs a b c hp hab h; cases qs with
    | nil => simp only [Instr.fill, Option.some.injEq] at h; subst h; exact ⟨b, rfl, hab⟩
    | cons => simp [PR] at hp
  | cons p ps ih => intro qs a b c hp hab h; cases qs with
    | nil => simp [PR] at hp
    | cons q qs =>
      obtain ⟨i, v⟩ := p
      obtain ⟨j, r⟩ := q
      obtain ⟨e, hv⟩ := hp.2 0 _ _ rfl rfl
      simp only at e hv
      subst e
      have hc := hv.cells
      have hsz : v.cells.size = r.cells.size := by simpa using hc.1
      unfold Instr.fill at h ⊢
      cases hpl : place i with
      | none => simp [hpl] at h
      | some os =>
        obtain ⟨off, size⟩ := os
        simp only [hpl] at h ⊢
        rw [← hsz, ← hab.1]
        by_cases hif : (decide (v.cells.size ≠ size) || decide (off + v.cells.size > a.size)) = true
        · rw [if_pos hif] at h; cases h
        · rw [if_neg hif] at h ⊢
          refine ih qs _ _ c ⟨by have := hp.1; simpa using this, fun k x y hx hy => hp.2 (k + 1) x y (by simpa using hx) (by simpa using hy)⟩ ?_ h
          rw [afold, afold]
          exact fold_rel off _ _ 0 _ _ hc hab

def buildE (P : Program) (t : TypeId) (parts : Array (Nat × Value)) : Ev Value :=
  match P.info? t, P.underlying t with
  | some i, some (.struct fields) => match i.zero, runPlain P (fields.mapM fun f => do pure (f.offset, ← sizeOf f.type)) with
    | some z, some pl => match z.cells.toList.all (plain 6), Instr.fill (fun k => pl[k]?) z.cells parts.toList with
      | true, some c => .pure (.agg c)
      | _, _ => .fail
    | _, _ => .fail
  | some i, some (.array _ elem) => match i.zero, P.info? elem with
    | some z, some j => match z.cells.toList.all (plain 6), Instr.fill (fun k => some (k * j.size, j.size)) z.cells parts.toList with
      | true, some c => .pure (.agg c)
      | _, _ => .fail
    | _, _ => .fail
  | _, _ => .fail
theorem framed_buildE (P : Program) (t : TypeId) (parts : Array (Nat × Value)) : Framed (buildE P t parts) := by
  unfold buildE
  (repeat' split) <;> first | exact framed_pure _ | exact framed_fail
theorem sim_buildE {t : TypeId} {ps qs : Array (Nat × Value)} (hp : PR σ ps.toList qs.toList) : Sim P Fr G σ (buildE P t ps) VR (runS P (Instr.build t qs)) := by
  unfold buildE
  split
  · rename_i i fields hi hu
    split
    · rename_i z pl hz hpl
      split
      · rename_i c hpz hc
        obtain ⟨d, hd, hcd⟩ := fill_rel _ _ _ _ _ c hp (ar_plain hpz) hc
        refine sim_run (d := .agg d) (fun w => ?_) (.agg hcd.1 hcd.2)
        have hpl' := run_plain P _ _ hpl w
        unfold Instr.build
        simp only [Sem.run_bind, run_zero hi hz, run_underlying hu, hpl', Result.andThen_ok, hd]
        rfl
      · exact sim_fail
    · exact sim_fail
  · rename_i i n elem hi hu
    split
    · rename_i z j hz hj
      split
      · rename_i c hpz hc
        obtain ⟨d, hd, hcd⟩ := fill_rel _ _ _ _ _ c hp (ar_plain hpz) hc
        refine sim_run (d := .agg d) (fun w => ?_) (.agg hcd.1 hcd.2)
        unfold Instr.build
        simp only [Sem.run_bind, run_zero hi hz, run_underlying hu, run_sizeOf hj, Result.andThen_ok, hd]
        rfl
      · exact sim_fail
    · exact sim_fail
  · exact sim_fail

def buildSliceE (P : Program) (t : TypeId) (len : Nat) (parts : Array (Nat × Value)) : Ev Value :=
  match P.underlying t with
  | some (.slice elem) => match P.info? elem with
    | some j => match j.zero with
      | some z => match Nat.ble (len * j.size) 4096 && Nat.ble len 4096 && Nat.blt 0 (len * j.size) && z.cells.toList.all (plain 6),
          Instr.fill (fun i => some (i * j.size, j.size)) ((Array.range (len * j.size)).map (z.cells[· % z.cells.size]!)) parts.toList with
        | true, some c => (new ⟨c.toList, elem, false, false⟩).bind fun n => .pure (.slice (some ⟨n, 0, none⟩) len len)
        | _, _ => .fail
      | none => .fail
    | none => .fail
  | _ => .fail
theorem framed_buildSliceE (P : Program) (t : TypeId) (len : Nat) (parts : Array (Nat × Value)) : Framed (buildSliceE P t len parts) := by
  unfold buildSliceE
  (repeat' split) <;> first | exact framed_bind (framed_new _) fun _ => framed_pure _ | exact framed_fail
theorem ar_cycle {z : Array Value} (h : z.toList.all (plain 6) = true) (n : Nat) : AR σ ((Array.range n).map (z[· % z.size]!)) ((Array.range n).map (z[· % z.size]!)) := by
  refine ⟨rfl, fun i v r hv hr => ?_⟩
  rw [hv] at hr; cases hr
  by_cases hz : z.size = 0
  · have : v = default := by
      simp at hv
      obtain ⟨a, ha, rfl⟩ := hv
      simp [hz]
    subst this
    exact .bool false
  · simp at hv
    obtain ⟨a, ha, rfl⟩ := hv
    have hlt : a % z.size < z.size := Nat.mod_lt _ (by omega)
    rw [getElem!_pos z _ hlt]
    simp only [List.all_eq_true] at h
    exact plain_refl 6 _ (h _ (by simp))
theorem sim_buildSliceE {t : TypeId} {len : Nat} {ps qs : Array (Nat × Value)} (hp : PR σ ps.toList qs.toList) : Sim P Fr G σ (buildSliceE P t len ps) VR (runS P (Instr.buildSlice t len qs)) := by
  unfold buildSliceE
  split
  · rename_i elem hu
    split
    · rename_i j hj
      split
      · rename_i z hz
        split
        · rename_i c hchk hc
          simp only [Bool.and_eq_true, Nat.ble_eq, Nat.blt_eq] at hchk
          obtain ⟨⟨⟨h1, h1'⟩, h2⟩, h3⟩ := hchk
          obtain ⟨d, hd, hcd⟩ := fill_rel _ _ _ _ _ c hp (ar_cycle h3 _) hc
          unfold Instr.buildSlice
          refine sim_q (run_underlying hu) ?_
          refine sim_q (run_sizeOf hj) ?_
          simp only []
          rw [if_neg (by omega), if_neg (by omega)]
          refine sim_q (run_zero hj hz) ?_
          simp only [hd, pure, bind, Sem.bind]
          refine sim_map (A := fun τ n (a : Addr) => ∃ b cap, τ n = some ⟨b, 0, cap, .nilFunc⟩ ∧ a = ⟨b, 0, none⟩) (sim_new (B := ⟨c.toList, elem, false, false⟩) rfl hcd.list) ?_
          rintro τ n a _ ⟨b, cap, h, rfl⟩
          have := VR.slc (l := len) (c := len) (o := 0) h (by unfold softCap; omega)
          simpa using this
        · exact sim_fail
      · exact sim_fail
    · exact sim_fail
  · exact sim_fail

/-! ### Places -/
def fieldAddrE (P : Program) (s : TypeId) (a : Value) (k : Nat) : Ev Value :=
  match P.underlying s, a with
  | some (.struct fields), .pointer (some ⟨n, o, none⟩) => match fields[k]? with
    | some f => match P.info? f.type with
      | some i => match i.size with
        | 0 => .fail
        | _ + 1 => .pure (.pointer (some ⟨n, o + f.offset, none⟩))
      | none => .fail
    | none => .fail
  | _, _ => .fail
theorem framed_fieldAddrE (P : Program) (s : TypeId) (a : Value) (k : Nat) : Framed (fieldAddrE P s a k) := by
  unfold fieldAddrE
  (repeat' split) <;> first | exact framed_pure _ | exact framed_fail
theorem sim_fieldAddrE {s : TypeId} {a r : Value} {k : Nat} (ha : VR σ a r) : Sim P Fr G σ (fieldAddrE P s a k) VR (runS P (Instr.fieldAt s r k)) := by
  unfold fieldAddrE
  split
  · rename_i fields n o hu
    split
    · rename_i f hf
      split
      · rename_i i hi
        split
        · exact sim_fail
        · rename_i m hm
          cases ha with
          | ptr hσ =>
            rename_i p
            refine sim_run (d := .pointer (some ⟨p.b, p.base + (o + f.offset), none⟩)) (fun w => ?_) (.ptr hσ)
            unfold Instr.fieldAt
            simp only [Sem.run_bind, run_underlying hu, Result.andThen_ok, hf]
            have : (fieldPlace ⟨p.b, p.base + o, none⟩ f).run P w = .ok ⟨p.b, p.base + (o + f.offset), none⟩ w := by
              unfold fieldPlace
              simp only [Sem.run_bind, run_sizeOf hi, Result.andThen_ok, hm, add_none]
              simp [Nat.add_assoc, pure, Sem.run]
            simp only [Instr.sureAddr, pure, Sem.run, Sem.run_bind, Result.andThen_ok, this]
      · exact sim_fail
    · exact sim_fail
  · exact sim_fail

def indexAddrE (P : Program) (t : TypeId) (x ix : Value) : Ev Value :=
  match P.underlying t, x, ix with
  | some (.array len elem), .pointer (some ⟨n, o, none⟩), .int k i => match P.info? elem with
    | some j => if 0 ≤ i ∧ i < (len : Int) then .pure (.pointer (some ⟨n, o + i.toNat * j.size, none⟩)) else .fail
    | none => .fail
  | some (.slice elem), .slice (some ⟨n, o, none⟩) len _, .int k i => match P.info? elem with
    | some j => if 0 ≤ i ∧ i < (len : Int) then .pure (.pointer (some ⟨n, o + i.toNat * j.size, none⟩)) else .fail
    | none => .fail
  | _, _, _ => .fail
theorem framed_indexAddrE (P : Program) (t : TypeId) (x ix : Value) : Framed (indexAddrE P t x ix) := by
  unfold indexAddrE
  (repeat' split) <;> first | exact framed_pure _ | exact framed_fail
theorem sim_indexAddrE {t : TypeId} {x y ix iy : Value} (hx : VR σ x y) (hi : VR σ ix iy) : Sim P Fr G σ (indexAddrE P t x ix) VR (runS P (Instr.indexAt t y iy)) := by
  unfold indexAddrE
  split
  · rename_i len elem n o k i hu
    split
    · rename_i j hj
      split
      · rename_i hb
        cases hx with
        | ptr hσ =>
          rename_i p
          cases hi
          refine sim_run (d := .pointer (some ⟨p.b, p.base + (o + i.toNat * j.size), none⟩)) (fun w => ?_) (.ptr hσ)
          unfold Instr.indexAt
          simp [Sem.run_bind, run_underlying hu, run_sizeOf hj, asIntOf, Instr.sureAddr, pure, Sem.run, hb, add_none, Nat.add_assoc, bind, Sem.bind, Sem.run_bind']
      · exact sim_fail
    · exact sim_fail
  · rename_i elem n o len c k i hu
    split
    · rename_i j hj
      split
      · rename_i hb
        have key : ∀ (p : Place) (c' : Nat), σ n = some p → Sim P Fr G σ (Ev.pure (Value.pointer (some ⟨n, o + i.toNat * j.size, none⟩))) VR (runS P (Instr.indexAt t (.slice (some ⟨p.b, p.base + o, none⟩) len c') (.int k i))) := by
          intro p c' hσ
          refine sim_run (d := .pointer (some ⟨p.b, p.base + (o + i.toNat * j.size), none⟩)) (fun w => ?_) (.ptr hσ)
          unfold Instr.indexAt
          simp [Sem.run_bind, run_underlying hu, run_sizeOf hj, asIntOf, Instr.sureAddr, pure, Sem.run, hb, add_none, Nat.add_assoc, bind, Sem.bind, Sem.run_bind']
        cases hi
        cases hx with
        | slc hσ hc => exact key _ _ hσ
        | soft hσ hc hl => exact key _ _ hσ
      · exact sim_fail
    · exact sim_fail
  · exact sim_fail

/-! ### Parts of values -/
def partE (P : Program) (t : TypeId) (cs : Array Value) (off : Nat) : Ev Value :=
  match P.underlying t, P.info? t with
  | some d, some i => match isAggD d with
    | true => .pure (.agg (cs.extract off (off + i.size)))
    | false => match cs[off]? with
      | some v => .pure v
      | none => .fail
  | _, _ => .fail
theorem framed_partE (P : Program) (t : TypeId) (cs : Array Value) (off : Nat) : Framed (partE P t cs off) := by
  unfold partE
  (repeat' split) <;> first | exact framed_pure _ | exact framed_fail
theorem AR.extract {a b : Array Value} (h : AR σ a b) (i j : Nat) : AR σ (a.extract i j) (b.extract i j) := by
  refine ⟨by simp [h.1], fun k v r hv hr => ?_⟩
  rw [Array.getElem?_extract] at hv hr
  split at hv
  · rw [h.1] at *
    rw [if_pos (by assumption)] at hr
    exact h.2 _ v r hv hr
  · cases hv
theorem sim_partE {t : TypeId} {cs ds : Array Value} {off : Nat} (h : AR σ cs ds) : Sim P Fr G σ (partE P t cs off) VR (runS P (part t ds off)) := by
  unfold partE
  split
  · rename_i d i hd hi
    unfold part
    refine sim_q (run_isAgg hd) ?_
    cases hagg : isAggD d with
    | true =>
      have := h.extract off (off + i.size)
      exact sim_run (d := .agg (ds.extract off (off + i.size))) (fun w => by simp [Sem.run_bind, run_sizeOf hi, pure, Sem.run]) (.agg this.1 this.2)
    | false =>
      simp only []
      cases hv : cs[off]? with
      | none => exact sim_fail
      | some v =>
        obtain ⟨r, hr, hvr⟩ := h.get hv
        exact sim_run (d := r) (fun w => by simp [hr, pure, Sem.run]) hvr
  · exact sim_fail
end
end Go.Proofs.YtofdiilfedjhkaaDoor.E
end

section
/- append, on both sides. -/
set_option linter.unusedVariables false
set_option linter.unusedSimpArgs false
namespace Go.Proofs.YtofdiilfedjhkaaDoor.E
section
variable {P : Program} {Fr : Prot} {G : Nat} {σ : Nm}

theorem bind_eq {α β : Type} {e : Ev α} {f : α → Ev β} {H : Tr} {s : Sup} {r : Res β} (h : e.bind f H s = some r) :
    ∃ r₁ r₂, e H s = some r₁ ∧ f r₁.val r₁.hp r₁.sup = some r₂ ∧ r = ⟨r₂.val, r₂.hp, r₂.sup, r₁.log ++ r₂.log, r₁.need ++ r₂.need⟩ := by
  unfold Ev.bind at h
  cases h₁ : e H s with
  | none => simp [h₁] at h
  | some r₁ =>
    obtain ⟨a, H₁, s₁, l₁, p₁⟩ := r₁
    simp only [h₁] at h
    cases h₂ : f a H₁ s₁ with
    | none => simp [h₂] at h
    | some r₂ =>
      obtain ⟨b, H₂, s₂, l₂, p₂⟩ := r₂
      simp only [h₂, Option.some.injEq] at h
      exact ⟨_, _, rfl, h₂, h.symm⟩

/-- Cells that the machine read are the model's. -/
theorem rds_real {n : Nat} {p : Place} (hσ : σ n = some p) {H : Tr} {w : World} (hR : Rel P Fr G σ H w) : ∀ (k o : Nat) (s : Sup) (r : Res (List Value)), rds n o k H s = some r →
    r.hp = H ∧ r.sup = s ∧ ∃ l, LR σ r.val l ∧ l.length = k ∧ ∀ (j : Nat) (v : Value), l[j]? = some v → w.cell? ⟨p.b, p.base + o + j, none⟩ = some v := by
  intro k
  induction k with
  | zero => intro o s r h; simp only [rds, Ev.pure, Option.some.injEq] at h; subst h; exact ⟨rfl, rfl, [], .nil _, rfl, by simp⟩
  | succ k ih =>
    intro o s r h
    unfold rds at h
    obtain ⟨r₁, r₂, h₁, h₂, rfl⟩ := bind_eq h
    obtain ⟨r₃, r₄, h₃, h₄, rfl⟩ := bind_eq h₂
    simp only [Ev.pure, Option.some.injEq] at h₄
    subst h₄
    unfold rd at h₁
    cases hc : cell H n o with
    | none => simp [hc] at h₁
    | some v =>
      simp only [hc, Option.some.injEq] at h₁
      subst h₁
      obtain ⟨B, hB, hv⟩ := cell_some hc
      obtain ⟨q, c, fz, hq, hw, hz, hl, hs, hcells, hro⟩ := hR.blk n B hB
      rw [hσ] at hq; cases hq
      obtain ⟨x, hx, hvx⟩ := hcells o v hv
      obtain ⟨a1, a2, l, a3, a4, a5⟩ := ih (o + 1) s r₃ h₃
      refine ⟨a1, a2, x :: l, LR.cons hvx a3, by simp [a4], fun j u hu => ?_⟩
      cases j with
      | zero => simp at hu; subst hu; simp [World.cell?, hw, hx]
      | succ j => simp at hu; have := a5 j u hu; rw [show p.base + o + (j + 1) = p.base + (o + 1) + j from by omega]; exact this

def readsE (size : Nat) : Value → Ev (Nat × List Value)
  | .slice (some ⟨m, q, none⟩) n _ => (rds m q (n * size)).bind fun l => .pure (n, l)
  | .slice none 0 _ => .pure (0, [])
  | .string b => match Nat.beq size 1 with
    | true => .pure (b.size, b.data.toList.map fun c => .int .u8 c.toNat)
    | false => .fail
  | _ => .fail
theorem framed_readsE (size : Nat) (v : Value) : Framed (readsE size v) := by
  unfold readsE
  (repeat' split) <;> first | exact framed_bind (framed_rds _ _ _) fun _ => framed_pure _ | exact framed_pure _ | exact framed_fail
theorem reads_real {size : Nat} {x y : Value} (hxy : VR σ x y) {H : Tr} {w : World} (hR : Rel P Fr G σ H w) {s : Sup} {r : Res (Nat × List Value)} (h : readsE size x H s = some r) :
    r.hp = H ∧ r.sup = s ∧ ∃ l, LR σ r.val.2 l ∧ l.length = r.val.1 * size ∧ (∀ w', (Builtin.lenOf y).run P w' = .ok r.val.1 w') ∧
      ∀ w', w'.heap = w.heap → (Builtin.firstCells size r.val.1 y).run P w' = .ok l.toArray w' := by
  unfold readsE at h
  split at h
  · rename_i m q n c
    obtain ⟨r₁, r₂, h₁, h₂, rfl⟩ := bind_eq h
    simp only [Ev.pure, Option.some.injEq] at h₂
    subst h₂
    have key : ∀ (p : Place) (c' : Nat), σ m = some p → r₁.hp = H ∧ r₁.sup = s ∧ ∃ l, LR σ r₁.val l ∧ l.length = n * size ∧ (∀ w', (Builtin.lenOf (.slice (some ⟨p.b, p.base + q, none⟩) n c')).run P w' = .ok n w') ∧
        ∀ w', w'.heap = w.heap → (Builtin.firstCells size n (.slice (some ⟨p.b, p.base + q, none⟩) n c')).run P w' = .ok l.toArray w' := by
      intro p c' hσ
      obtain ⟨a1, a2, l, a3, a4, a5⟩ := rds_real hσ hR _ _ _ _ h₁
      refine ⟨a1, a2, l, a3, a4, fun w' => rfl, fun w' hw' => ?_⟩
      refine run_firstCells_some w' size n _ n c' l a4 fun j v hj => ?_
      have := a5 j v hj
      rw [add_none]
      simpa [World.cell?, hw'] using this
    cases hxy with
    | slc hσ hc => exact key _ _ hσ
    | soft hσ hc hl => exact key _ _ hσ
  · rename_i c
    simp only [Ev.pure, Option.some.injEq] at h
    subst h
    cases hxy
    exact ⟨rfl, rfl, [], .nil _, by simp, fun w' => rfl, fun w' _ => by simp [Builtin.firstCells, pure, Sem.run]⟩
  · rename_i b
    cases hb : Nat.beq size 1 with
    | false => simp [hb, Ev.fail] at h
    | true =>
      simp only [hb, Ev.pure, Option.some.injEq] at h
      subst h
      cases hxy
      have : size = 1 := Nat.eq_of_beq_eq_true hb
      subst this
      refine ⟨rfl, rfl, b.data.toList.map fun c => .int .u8 c.toNat, ⟨rfl, fun i v r hv hr => ?_⟩, by simp only [List.length_map, Nat.mul_one]; rfl, fun w' => rfl, fun w' _ => ?_⟩
      · rw [hv] at hr; cases hr
        simp at hv
        obtain ⟨c, hc, rfl⟩ := hv
        exact .int _ _
      · simp only [Builtin.firstCells, pure, Sem.run]
        have e : b.extract 0 b.size = b := ByteArray.extract_zero_size
        rw [e]
        congr 1
        apply Array.ext'
        simp
  · simp [Ev.fail] at h

def notInt : TypeDesc → Bool
  | .slice _ | .string => true
  | _ => false
theorem notInt_spec {d : TypeDesc} (h : notInt d = true) : (∃ e, d = .slice e) ∨ d = .string := by
  cases d with
  | slice e => exact .inl ⟨e, rfl⟩
  | string => exact .inr rfl
  | _ => simp [notInt] at h

theorem run_append_room' {t u ty elem : TypeId} {du : TypeDesc} {j : TypeInfo} {base : Option Addr} {x : Value} {len c n : Nat} {news : List Value} {w w' : World}
    (ht : P.underlying t = some (.slice elem)) (hu : P.underlying u = some du) (hn : notInt du = true) (hj : P.info? elem = some j)
    (hlen : ∀ w', (Builtin.lenOf x).run P w' = .ok n w') (hf : (Builtin.firstCells j.size n x).run P w = .ok news.toArray w) (hroom : len + n ≤ c)
    (hst : match base with | none => w' = w | some a => (storeCells (a.add (len * j.size)) news).run P w = .ok () w') :
    (Builtin.append_ #[t, u] ty #[.slice base len c, x]).run P w = .ok (.slice base (len + n) c) w' := by
  cases base with
  | none =>
    simp only at hst; subst hst
    rcases notInt_spec hn with ⟨e, rfl⟩ | rfl <;> simp [Builtin.append_, Go.run_underlying ht, Go.run_underlying hu, sizeOf, typeInfo, hj, hlen, hroom, hf]
  | some a =>
    rcases notInt_spec hn with ⟨e, rfl⟩ | rfl <;> simp [Builtin.append_, Go.run_underlying ht, Go.run_underlying hu, sizeOf, typeInfo, hj, hlen, hroom, hf, hst]

theorem run_append_grow' {t u ty elem : TypeId} {du : TypeDesc} {j : TypeInfo} {z : Value} {base : Option Addr} {x : Value} {len c n : Nat} {olds news : List Value} {w : World}
    (ht : P.underlying t = some (.slice elem)) (hu : P.underlying u = some du) (hn : notInt du = true) (hj : P.info? elem = some j) (hz : j.zero = some z)
    (hlen : ∀ w', (Builtin.lenOf x).run P w' = .ok n w') (hf : (Builtin.firstCells j.size n x).run P w.drew = .ok news.toArray w.drew)
    (hfo : (Builtin.firstCells j.size len (.slice base len c)).run P w.drew = .ok olds.toArray w.drew) (hg : c < len + n) (h63 : len + n ≤ 2 ^ 24) (hb : j.bytes ≤ 4096) :
    (Builtin.append_ #[t, u] ty #[.slice base len c, x]).run P w =
      .ok (.slice (some ⟨w.heap.size, 0, none⟩) (len + n) (grownCap w (len + n) c elem))
        (w.drew.alloc (.cells (olds.toArray ++ news.toArray ++ Builtin.zeroCells z.cells (grownCap w (len + n) c elem - (len + n))) elem)) := by
  have hn' : ¬ (len + n ≤ c) := by omega
  have h63' : ¬ (9223372036854775807 < ((len : Int) + (n : Int))) := by omega
  have h48' : ¬ (281474976710656 < Builtin.nextslicecap (len + n) c * j.bytes) := by
    have : (len + n) * j.bytes ≤ 140737488355328 := Nat.le_trans (Nat.mul_le_mul h63 hb) (by decide)
    have := growslice_fits hg this
    omega
  rcases notInt_spec hn with ⟨e, rfl⟩ | rfl <;>
    (simp [Builtin.append_, Go.run_underlying ht, Go.run_underlying hu, sizeOf, typeInfo, zeroValue, hj, hz, hlen, hn', h63', h48', Question.forced, hf, hfo, newRow, grownCap]
     try (congr 2; apply Array.ext'; simp [List.append_assoc]))
end
end Go.Proofs.YtofdiilfedjhkaaDoor.E
end

section
/- append, copy, conversions of bytes, on both sides. -/
set_option linter.unusedVariables false
set_option linter.unusedSimpArgs false
namespace Go.Proofs.YtofdiilfedjhkaaDoor.E
section
variable {P : Program} {Fr : Prot} {G : Nat} {σ : Nm}

theorem storeCells_row {b : Nat} {e : TypeId} {fz : Nat × Nat} : ∀ (ys : List Value) (i off : Nat) (w : World) (c : Array Value), w.heap[b]? = some (.cells c e fz) →
    (∀ o, o < c.size → ¬ (fz.1 ≤ o ∧ o < fz.2)) → off + i + ys.length ≤ c.size → (∀ y ∈ ys, flat y = true) →
    ∃ w' c', (storeCells ⟨b, off, none⟩ ys i).run P w = .ok () w' ∧ w'.heap[b]? = some (.cells c' e fz) ∧ c'.size = c.size ∧ (∀ k, k ≠ b → w'.heap[k]? = w.heap[k]?) ∧ w'.heap.size = w.heap.size ∧
      w'.os = w.os ∧ w'.tape = w.tape ∧ w'.output = w.output ∧ (∀ j, c'[j]? = if off + i ≤ j ∧ j < off + i + ys.length then ys[j - (off + i)]? else c[j]?) := by
  intro ys
  induction ys with
  | nil => intro i off w c hw _ _ _; exact ⟨w, c, rfl, hw, rfl, fun _ _ => rfl, rfl, rfl, rfl, rfl, fun j => by rw [if_neg (by simp)]⟩
  | cons y ys ih =>
    intro i off w c hw hz hl hf
    simp only [List.length_cons] at hl
    have hlt : off + i < c.size := by omega
    have hcell : w.cell? ⟨b, off + i, none⟩ = some c[off + i] := by simp [World.cell?, hw, hlt]
    have hfz : w.frozen? ⟨b, off + i, none⟩ = false := by
      have := hz (off + i) hlt
      simp only [not_and] at this
      simp only [World.frozen?, hw, Bool.and_eq_false_iff, decide_eq_false_iff_not]
      by_cases h1 : fz.1 ≤ off + i
      · exact .inr (this h1)
      · exact .inl h1
    have hg := @setCell_get w b (off + i) y c e fz hw
    obtain ⟨w', c', h1, h2, h3, h4, h5, h6, h7, h8, h9⟩ := ih (i + 1) off (w.setCell ⟨b, off + i, none⟩ y) (c.setIfInBounds (off + i) y) (by rw [hg, if_pos rfl]) (by simpa using hz) (by simp; omega) (fun u hu => hf u (by simp [hu]))
    refine ⟨w', c', ?_, h2, by simpa using h3, fun k hk => by rw [h4 k hk, hg, if_neg hk], by rw [h5]; simp [World.setCell], h6, h7, h8, fun j => ?_⟩
    · unfold storeCells
      rw [show (store _ y >>= _) = (store (Addr.add ⟨b, off, none⟩ i) y).bind _ from rfl, Sem.run_bind', add_none, run_store (hf y (by simp)) hcell hfz]
      exact h1
    · rw [h9 j]
      by_cases e1 : j = off + i
      · subst e1
        rw [if_neg (by omega), if_pos (by simp)]
        simp [Array.getElem?_setIfInBounds, hlt]
      · by_cases e2 : off + i + 1 ≤ j ∧ j < off + i + 1 + ys.length
        · rw [if_pos (by omega), if_pos (by simp; omega), show j - (off + i) = (j - (off + (i + 1))) + 1 from by omega]
          simp
        · rw [if_neg (by omega), if_neg (by simp; omega), Array.getElem?_setIfInBounds_ne (by omega)]

def newSoft (elem : TypeId) (cells : List Value) (need : Nat) : Ev Value := (new ⟨cells, elem, true, false⟩).bind fun f => .pure (.slice (some ⟨f, 0, none⟩) need softCap)
theorem framed_newSoft (elem : TypeId) (cells : List Value) (need : Nat) : Framed (newSoft elem cells need) := framed_bind (framed_new _) fun _ => framed_pure _
theorem newSoft_eq (elem : TypeId) (cells : List Value) (need : Nat) (H : Tr) (s : Sup) :
    newSoft elem cells need H s = some ⟨.slice (some ⟨s.name, 0, none⟩) need softCap, Tr.put (s.name + 1) H s.name (some ⟨cells, elem, true, false⟩), ⟨s.name + 1, s.ora⟩, [], [] ++ []⟩ := by
  simp [newSoft, Ev.bind, new_eq, Ev.pure]

/-- A row that grew: a new one on both sides. -/
theorem rel_grow {H : Tr} {w w' : World} (hR : Rel P Fr G σ H w) {n : Nat} (hn : σ n = none) (hG : G ≤ n) {elem : TypeId} {j : TypeInfo} (hj : P.info? elem = some j)
    {xs ys zs : List Value} (hxy : LR σ xs ys) {len K : Nat} (hys : ys.length = len * j.size) (hK : len ≤ K) (hzs : zs.length = (K - len) * j.size)
    (hh : w'.heap = w.heap.push (.cells (ys ++ zs).toArray elem (0, 0))) (ho : w'.os = w.os) (ht : w'.tape = w.tape) (hp : w'.output = w.output) :
    ∃ τ, Aft σ τ n (n + 1) ∧ Rel P Fr G τ (Tr.put (n + 1) H n (some ⟨xs, elem, true, false⟩)) w' ∧ Out Fr w w' ∧ VR τ (.slice (some ⟨n, 0, none⟩) len softCap) (.slice (some ⟨w.heap.size, 0, none⟩) len K) := by
  obtain ⟨τ, h1, h2, h3, h4⟩ := rel_new hR hn hG (B := ⟨xs, elem, true, false⟩) (c := (ys ++ zs).toArray) K (0, 0) (by intro o _; simp) (by have := hxy.1; simp; omega)
    (fun _ => by
      have : (ys ++ zs).length = K * j.size := by
        rw [List.length_append, hys, hzs, ← Nat.add_mul]; congr 1; omega
      simp only [List.size_toArray, this, Program.cellsOf, hj]; rfl)
    (fun o v hv => by
      obtain ⟨r, hr, x⟩ := hxy.get hv
      refine ⟨r, ?_, x⟩
      have hlt : o < ys.length := by
        rcases Nat.lt_or_ge o ys.length with h | h
        · exact h
        · simp [List.getElem?_eq_none h] at hr
      simpa [List.getElem?_append, hlt] using hr) hh ho ht hp
  refine ⟨τ, h1, h3, h4, ?_⟩
  have := VR.soft (o := 0) (i := 0) (l := len) (c := K) h2 (by simp) hK
  simpa using this

def appendE (P : Program) (t u : TypeId) (s x : Value) : Ev Value :=
  match P.underlying t, P.underlying u with
  | some (.slice elem), some du => match P.info? elem, notInt du with
    | some j, true => match j.zero with
      | some z => match Nat.beq z.cells.size j.size && Nat.ble j.bytes 4096 && Nat.blt 0 j.size with
        | true => (readsE j.size x).bind fun q => match Nat.ble q.1 16384 && q.2.all flat with
          | true => match s with
            | .slice none 0 0 => match q.1 with
              | 0 => .pure (.slice none 0 0)
              | _ + 1 => newSoft elem q.2 q.1
            | .slice (some ⟨m, o, none⟩) len c => match Nat.ble len 1048576 with
              | true => match Nat.blt c softCap with
                | true => match Nat.ble (len + q.1) c with
                  | true => (wrs m (o + len * j.size) q.2).bind fun _ => .pure (.slice (some ⟨m, o, none⟩) (len + q.1) c)
                  | false => (rds m o (len * j.size)).bind fun l => newSoft elem (l ++ q.2) (len + q.1)
                | false => match q.1 with
                  | 0 => .pure (.slice (some ⟨m, o, none⟩) len c)
                  | _ + 1 => (kill m).bind fun B => match B.soft && Nat.beq o ((c - softCap) * j.size) && Nat.ble (o + len * j.size) B.cells.length && Nat.beq B.elem elem with
                    | true => newSoft elem ((B.cells.drop o).take (len * j.size) ++ q.2) (len + q.1)
                    | false => .fail
              | false => .fail
            | _ => .fail
          | false => .fail
        | false => .fail
      | none => .fail
    | _, _ => .fail
  | _, _ => .fail
theorem framed_appendE (P : Program) (t u : TypeId) (s x : Value) : Framed (appendE P t u s x) := by
  unfold appendE
  split <;> try exact framed_fail
  split <;> try exact framed_fail
  split <;> try exact framed_fail
  split <;> try exact framed_fail
  refine framed_bind (framed_readsE _ _) fun q => ?_
  split <;> try exact framed_fail
  split <;> try exact framed_fail
  · split
    · exact framed_pure _
    · exact framed_newSoft _ _ _
  · split <;> try exact framed_fail
    split
    · split
      · exact framed_bind (framed_wrs _ _ _) fun _ => framed_pure _
      · exact framed_bind (framed_rds _ _ _) fun _ => framed_newSoft _ _ _
    · split
      · exact framed_pure _
      · refine framed_bind (framed_kill _) fun B => ?_
        split
        · exact framed_newSoft _ _ _
        · exact framed_fail

theorem LR.append {a b c d : List Value} (h : LR σ a b) (k : LR σ c d) : LR σ (a ++ c) (b ++ d) := by
  refine ⟨by simp [h.1, k.1], fun i v r hv hr => ?_⟩
  rw [List.getElem?_append] at hv hr
  by_cases hi : i < a.length
  · rw [if_pos hi] at hv; rw [if_pos (h.1 ▸ hi)] at hr; exact h.2 i v r hv hr
  · rw [if_neg hi] at hv; rw [if_neg (h.1 ▸ hi)] at hr; rw [h.1] at hv; exact k.2 _ v r hv hr
theorem zeroCells_len (z : Array Value) (n : Nat) : (Builtin.zeroCells z n).toList.length = n * z.size := by simp [Builtin.zeroCells]
theorem LR.flat_of {a b : List Value} (h : LR σ a b) (hf : a.all flat = true) : ∀ y ∈ b, flat y = true := by
  intro y hy
  obtain ⟨i, hi, rfl⟩ := List.getElem_of_mem hy
  have hi' : i < a.length := by rw [h.1]; exact hi
  rw [(h.2 i a[i] b[i] (by simp [hi']) (by simp [hi])).flat]
  exact List.all_eq_true.1 hf _ (by simp)

theorem grow_case {t u ty elem : TypeId} {du : TypeDesc} {j : TypeInfo} {z : Value} {base : Option Addr} {y : Value} {len c n : Nat} {xs ys olds olds' : List Value} {H : Tr} {w : World}
    (ht : P.underlying t = some (.slice elem)) (hu : P.underlying u = some du) (hni : notInt du = true) (hj : P.info? elem = some j) (hz : j.zero = some z)
    (hzs : z.cells.size = j.size) (hb : j.bytes ≤ 4096) (hR : Rel P Fr G σ H w) (hlen : ∀ w', (Builtin.lenOf y).run P w' = .ok n w')
    (hf : ∀ w', w'.heap = w.heap → (Builtin.firstCells j.size n y).run P w' = .ok ys.toArray w') (hxy : LR σ xs ys) (hyl : ys.length = n * j.size)
    (hfo : ∀ w', w'.heap = w.heap → (Builtin.firstCells j.size len (.slice base len c)).run P w' = .ok olds'.toArray w') (hoo : LR σ olds olds') (hol : olds'.length = len * j.size)
    (hg : c < len + n) (h63 : len + n ≤ 2 ^ 24) {s : Sup} (hn : σ s.name = none) (hG : G ≤ s.name) :
    runS P (Builtin.append_ #[t, u] ty #[.slice base len c, y]) w fun v w' => ∃ τ, Aft σ τ s.name (s.name + 1) ∧ Rel P Fr G τ (Tr.put (s.name + 1) H s.name (some ⟨olds ++ xs, elem, true, false⟩)) w' ∧
      Out Fr w w' ∧ VR τ (.slice (some ⟨s.name, 0, none⟩) (len + n) softCap) v := by
  have hrun := run_append_grow' (P := P) (ty := ty) (w := w) ht hu hni hj hz hlen (hf w.drew rfl) (hfo w.drew rfl) hg h63 hb
  have hK := grownCap_ge w (len + n) c elem
  generalize grownCap w (len + n) c elem = K at hrun hK
  obtain ⟨τ, a1, a2, a3, a4⟩ := rel_grow (P := P) (w' := w.drew.alloc (.cells (olds'.toArray ++ ys.toArray ++ Builtin.zeroCells z.cells (K - (len + n))) elem)) hR hn hG hj
    (hoo.append hxy) (zs := (Builtin.zeroCells z.cells (K - (len + n))).toList) (len := len + n) (K := K) (by rw [List.length_append, hol, hyl, Nat.add_mul]) hK (by rw [zeroCells_len, hzs])
    (by show w.heap.push _ = w.heap.push _; congr 2; apply Array.ext'; simp) rfl rfl rfl
  exact ⟨_, _, hrun, τ, a1, a2, a3, a4⟩

theorem sim_appendE {t u ty : TypeId} {s s' x y : Value} (hs : VR σ s s') (hx : VR σ x y) : Sim P Fr G σ (appendE P t u s x) VR (runS P (Builtin.append_ #[t, u] ty #[s', y])) := by
  unfold appendE
  split <;> try exact sim_fail
  rename_i elem du ht hu
  split <;> try exact sim_fail
  rename_i j hj hni
  split <;> try exact sim_fail
  rename_i z hz
  split <;> try exact sim_fail
  rename_i hchk
  simp only [Bool.and_eq_true, Nat.ble_eq, Nat.blt_eq] at hchk
  obtain ⟨⟨hzs, hb⟩, hsz⟩ := hchk
  have hzs : z.cells.size = j.size := Nat.eq_of_beq_eq_true hzs
  intro H sp r w hr hn hR hf hG
  obtain ⟨r₁, r₂, h₁, h₂, rfl⟩ := bind_eq hr
  obtain ⟨e1, e2, ys, hLR, hyl, hlen, hfirst⟩ := reads_real hx hR h₁
  rw [e1, e2] at h₂
  obtain ⟨⟨n, xs⟩, Hx, sx, lx, px⟩ := r₁
  simp only at e1 e2 hLR hyl hlen hfirst h₂ hf hn ⊢
  subst e1 e2
  have hq : (Nat.ble n 16384 && xs.all flat) = true := by
    cases hq : (Nat.ble n 16384 && xs.all flat) with
    | true => rfl
    | false => simp [hq, Ev.fail] at h₂
  simp only [hq] at h₂
  simp only [Bool.and_eq_true, Nat.ble_eq] at hq
  obtain ⟨hq1, hq2⟩ := hq
  have hyf := hLR.flat_of hq2
  split at h₂ <;> try (simp [Ev.fail] at h₂; done)
  · cases hs
    split at h₂
    · simp only [Ev.pure, Option.some.injEq] at h₂
      subst h₂
      have hrun := run_append_room' (P := P) (ty := ty) (base := none) (len := 0) (c := 0) (n := 0) (w := w) (w' := w) ht hu hni hj hlen (hfirst w rfl) (Nat.le_refl _) rfl
      exact ⟨_, w, hrun, σ, .refl .., hR, .refl .., .nils _ _⟩
    · rename_i q
      rw [newSoft_eq, Option.some.injEq] at h₂
      subst h₂
      have := grow_case (P := P) (ty := ty) (base := none) (len := 0) (c := 0) (olds := []) (olds' := []) (s := sx) ht hu hni hj hz hzs hb hR hlen hfirst hLR hyl (fun w' _ => by simp [Builtin.firstCells, pure, Sem.run]) (.nil _) (by simp) (by omega) (by omega)
        (hf _ ⟨Nat.le_refl _, Nat.lt_succ_self _⟩) hG
      obtain ⟨v, w', hrun, τ, a1, a2, a3, a4⟩ := this
      simp only [Nat.zero_add, List.nil_append] at a2 a4
      exact ⟨v, w', hrun, τ, a1, a2, a3, a4⟩
  · rename_i m o len c
    have hlb : Nat.ble len 1048576 = true := by
      cases hq : Nat.ble len 1048576 with
      | true => rfl
      | false => simp [hq, Ev.fail] at h₂
    simp only [hlb] at h₂
    simp only [Nat.ble_eq] at hlb
    cases hc : Nat.blt c softCap with
    | true =>
      simp only [hc] at h₂
      simp only [Nat.blt_eq] at hc
      have hs2 : ∃ p, σ m = some p ∧ s' = .slice (some ⟨p.b, p.base + o, none⟩) len c := by
        cases hs with
        | slc hσ _ => exact ⟨_, hσ, rfl⟩
        | soft hσ h _ => omega
      obtain ⟨p, hσ, rfl⟩ := hs2
      cases hroom : Nat.ble (len + n) c with
      | true =>
        simp only [hroom] at h₂
        simp only [Nat.ble_eq] at hroom
        obtain ⟨r₃, r₄, h₃, h₄, rfl⟩ := bind_eq h₂
        simp only [Ev.pure, Option.some.injEq] at h₄
        subst h₄
        simp only at hf hn ⊢
        obtain ⟨_, w', hst, τ, a1, a2, a3, _⟩ := sim_wrs hσ xs ys (o + len * j.size) 0 (p.base + o + len * j.size) hLR (List.all_eq_true.1 hq2) (by omega) Hx sx r₃ w h₃ (all_app (all_app hn).2).1 hR hf hG
        have hrun := run_append_room' (P := P) (ty := ty) (base := some ⟨p.b, p.base + o, none⟩) (len := len) (c := c) (n := n) (w := w) (w' := w') ht hu hni hj hlen (hfirst w rfl) hroom (by simp only [add_none]; exact hst)
        exact ⟨_, w', hrun, τ, a1, a2, a3, .slc (a1.keep _ _ hσ) hc⟩
      | false =>
        simp only [hroom] at h₂
        have hroom : c < len + n := by
          rcases Nat.lt_or_ge c (len + n) with h | h
          · exact h
          · rw [Nat.ble_eq_true_of_le h] at hroom; cases hroom
        obtain ⟨r₃, r₄, h₃, h₄, rfl⟩ := bind_eq h₂
        rw [newSoft_eq, Option.some.injEq] at h₄
        subst h₄
        simp only at hf hn ⊢
        obtain ⟨b1, b2, olds', b3, b4, b5⟩ := rds_real hσ hR _ _ _ _ h₃
        obtain ⟨l₃, H₃, s₃, g₃, p₃⟩ := r₃
        simp only at b1 b2 b3 hf hn ⊢
        subst b1 b2
        have := grow_case (P := P) (ty := ty) (base := some ⟨p.b, p.base + o, none⟩) (len := len) (c := c) (s := s₃) ht hu hni hj hz hzs hb hR hlen hfirst hLR hyl
          (fun w' hw' => run_firstCells_some w' j.size len _ len c olds' b4 fun k v hk => by have := b5 k v hk; rw [add_none]; simpa [World.cell?, hw'] using this) b3 b4 hroom (by omega)
          (hf _ ⟨Nat.le_refl _, Nat.lt_succ_self _⟩) hG
        exact this
    | false =>
      simp only [hc] at h₂
      have hc : softCap ≤ c := by
        rcases Nat.lt_or_ge c softCap with h | h
        · rw [show Nat.blt c softCap = true from Nat.ble_eq_true_of_le h] at hc; cases hc
        · exact h
      have hs2 : ∃ p c' i, σ m = some p ∧ c = softCap + i ∧ c' + i = p.cap ∧ len ≤ c' ∧ s' = .slice (some ⟨p.b, p.base + o, none⟩) len c' := by
        cases hs with
        | slc hσ h => omega
        | soft hσ h1 h2 => exact ⟨_, _, _, hσ, rfl, h1, h2, rfl⟩
      obtain ⟨p, c', i, hσ, rfl, hci, hlc, rfl⟩ := hs2
      split at h₂
      · simp only [Ev.pure, Option.some.injEq] at h₂
        subst h₂
        have hy0 : ys = [] := List.eq_nil_of_length_eq_zero (by simpa using hyl)
        subst hy0
        have hrun := run_append_room' (P := P) (ty := ty) (base := some ⟨p.b, p.base + o, none⟩) (len := len) (c := c') (n := 0) (w := w) (w' := w) (news := []) ht hu hni hj hlen (hfirst w rfl) (by omega) rfl
        exact ⟨_, w, hrun, σ, .refl .., hR, .refl .., .soft hσ hci hlc⟩
      · rename_i n'
        clear hr h₁
        generalize n'.succ = n at *
        obtain ⟨r₃, r₄, h₃, h₄, rfl⟩ := bind_eq h₂
        obtain ⟨B, hB, hro, rfl⟩ := kill_eq h₃
        simp only at h₄ hf hn ⊢
        have hchk : (B.soft && Nat.beq o ((softCap + i - softCap) * j.size) && Nat.ble (o + len * j.size) B.cells.length && Nat.beq B.elem elem) = true := by
          cases hq : (B.soft && Nat.beq o ((softCap + i - softCap) * j.size) && Nat.ble (o + len * j.size) B.cells.length && Nat.beq B.elem elem) with
          | true => rfl
          | false => rw [hq] at h₄; cases h₄
        simp only [hchk] at h₄
        simp only [Bool.and_eq_true, Nat.ble_eq, Nat.add_sub_cancel_left] at hchk
        obtain ⟨⟨⟨k1, k2⟩, k3⟩, k4⟩ := hchk
        have k2 : o = i * j.size := Nat.eq_of_beq_eq_true k2
        have k4 : B.elem = elem := Nat.eq_of_beq_eq_true k4
        rw [newSoft_eq, Option.some.injEq] at h₄
        subst h₄
        simp only at hf hn ⊢
        obtain ⟨q, c, fz, hq, hw, hz', hl, hsf, hcells, hrr⟩ := hR.blk m B hB
        rw [hσ] at hq; cases hq
        have hsf := hsf k1
        have hcell : P.cellsOf B.elem = j.size := by rw [k4]; simp [Program.cellsOf, hj]
        rw [hcell] at hsf
        have hget1 : ∀ k, (Tr.put (m + 1) Hx m none).get k = if k = m then none else Hx.get k := fun k => Tr.get_put _ _ _ _ _ (Nat.lt_succ_self m)
        -- the memory without the old row
        have hR1 : Rel P Fr G σ (Tr.put (m + 1) Hx m none) w := by
          refine ⟨hR.glob, fun k C hC => ?_, fun k l C D pk pl hC hD => ?_, hR.prot, hR.ext⟩
          · rw [hget1] at hC
            by_cases e : k = m
            · rw [if_pos e] at hC; cases hC
            · rw [if_neg e] at hC; exact hR.blk k C hC
          · rw [hget1] at hC hD
            by_cases e : k = m
            · rw [if_pos e] at hC; cases hC
            · rw [if_neg e] at hC
              by_cases e' : l = m
              · rw [if_pos e'] at hD; cases hD
              · rw [if_neg e'] at hD; exact hR.apart k l C D pk pl hC hD
        -- the cells that are kept
        have hold : ∃ olds', LR σ ((B.cells.drop o).take (len * j.size)) olds' ∧ olds'.length = len * j.size ∧ ∀ (k : Nat) (v : Value), olds'[k]? = some v → c[p.base + o + k]? = some v := by
          refine ⟨((c.toList.drop (p.base + o)).take (len * j.size)), ⟨?_, fun k v x hv hx => ?_⟩, ?_, fun k v hk => ?_⟩
          · simp [Nat.min_def]; split <;> split <;> omega
          · rw [List.getElem?_take] at hv hx
            split at hv
            · rw [if_pos (by assumption)] at hx
              rw [List.getElem?_drop] at hv hx
              obtain ⟨x', hx', hvx⟩ := hcells (o + k) v hv
              rw [← Nat.add_assoc] at hx'
              simp only [Array.getElem?_toList] at hx
              rw [hx'] at hx; cases hx; exact hvx
            · cases hv
          · simp [Nat.min_def]; omega
          · rw [List.getElem?_take] at hk
            split at hk
            · simpa [List.getElem?_drop] using hk
            · cases hk
        obtain ⟨olds', b3, b4, b5⟩ := hold
        by_cases hroom : len + n ≤ c'
        · -- in place
          have hmul : (len + n) * j.size ≤ c' * j.size := Nat.mul_le_mul_right _ hroom
          have hcap : p.cap * j.size = c' * j.size + i * j.size := by rw [← hci, Nat.add_mul]
          rw [Nat.add_mul] at hmul
          have hfits : p.base + o + len * j.size + 0 + ys.length ≤ c.size := by omega
          obtain ⟨w', c2, g1, g2, g3, g4, g5, g6, g7, g8, g9⟩ := storeCells_row (P := P) ys 0 (p.base + o + len * j.size) w c hw hz' hfits hyf
          have hrun := run_append_room' (P := P) (ty := ty) (base := some ⟨p.b, p.base + o, none⟩) (len := len) (c := c') (n := n) (w := w) (w' := w') ht hu hni hj hlen (hfirst w rfl) hroom (by simp only [add_none]; exact g1)
          have hfn : σ sx.name = none := hf _ ⟨Nat.le_refl _, Nat.lt_succ_self _⟩
          let τ : Nm := fun k => if k = sx.name then some ⟨p.b, p.base + o, p.cap - i, .nilFunc⟩ else σ k
          have hsub : Sub σ τ := fun k q h => by
            by_cases e : k = sx.name
            · subst e; rw [hfn] at h; cases h
            · simp only [τ, if_neg e]; exact h
          have hτn : τ sx.name = some ⟨p.b, p.base + o, p.cap - i, .nilFunc⟩ := by simp only [τ, if_pos rfl]
          have hτ : ∀ k, k ≠ sx.name → τ k = σ k := fun k e => by simp only [τ, if_neg e]
          have hnotb : ∀ k C q, k ≠ m → Hx.get k = some C → σ k = some q → q.b ≠ p.b := fun k C q hk hC hq e => by
            have := (hR.apart k m C B q p hC hB hk hq hσ e).2.1
            rw [k1] at this; cases this
          have hget2 : ∀ k, (Tr.put (sx.name + 1) (Tr.put (m + 1) Hx m none) sx.name (some ⟨(B.cells.drop o).take (len * j.size) ++ xs, elem, true, false⟩)).get k =
              if k = sx.name then some ⟨(B.cells.drop o).take (len * j.size) ++ xs, elem, true, false⟩ else if k = m then none else Hx.get k := fun k => by
            rw [Tr.get_put _ _ _ _ _ (Nat.lt_succ_self _), hget1]
          refine ⟨_, w', hrun, τ, ⟨hsub, fun k q h => ?_⟩, ⟨fun g hg => ?_, fun k C hC => ?_, fun k l C D pk pl hC hD hne hk hl' hb' => ?_, fun b hb => by rw [g4 b (fun e => hrr hro (by rw [← e]; exact hb))]; exact hR.prot b hb, fun m p h => hsub m p (hR.ext m p h)⟩, ⟨g6, g7, g8, by omega, fun b hb => g4 b (fun e => hrr hro (by rw [← e]; exact hb))⟩, ?_⟩
          · by_cases e : k = sx.name
            · exact .inr ⟨by rw [e]; exact Nat.le_refl _, by rw [e]; exact Nat.lt_succ_self _⟩
            · rw [hτ k e] at h; exact .inl h
          · rw [hτ g (by have : G ≤ sx.name := hG; omega)]; exact hR.glob g hg
          · rw [hget2] at hC
            by_cases e : k = sx.name
            · subst e
              rw [if_pos rfl] at hC; cases hC
              refine ⟨_, c2, fz, hτn, by rw [g2, k4], by rw [g3]; exact hz', ?_, fun _ => ?_, fun q v hv => ?_, fun _ => hrr hro⟩
              · have := hLR.1
                simp [Nat.min_def]
                split <;> omega
              · simp only [Program.cellsOf, hj, Option.map_some, Option.getD_some]
                have : (p.cap - i) * j.size = c' * j.size := by congr 1; omega
                omega
              · have hLL := b3.append hLR
                obtain ⟨x', hx', hvx⟩ := hLL.get hv
                refine ⟨x', ?_, hvx.sub hsub⟩
                rw [g9]
                rw [List.getElem?_append, b4] at hx'
                by_cases hq' : q < len * j.size
                · rw [if_pos hq'] at hx'
                  rw [if_neg (by simp only; omega)]
                  exact b5 q x' hx'
                · rw [if_neg hq'] at hx'
                  have hlt : q - len * j.size < ys.length := by
                    rcases Nat.lt_or_ge (q - len * j.size) ys.length with h | h
                    · exact h
                    · simp [List.getElem?_eq_none h] at hx'
                  rw [if_pos (by simp only; omega)]
                  rw [← hx']; congr 1; simp only; omega
            · rw [if_neg e] at hC
              by_cases em : k = m
              · rw [if_pos em] at hC; cases hC
              · rw [if_neg em] at hC
                obtain ⟨q, cc, fz', hq, hw', hz'', hl'', hs'', hcells', hr'⟩ := hR.blk k C hC
                refine ⟨q, cc, fz', by rw [hτ k e]; exact hq, by rw [g4 _ (hnotb k C q em hC hq)]; exact hw', hz'', hl'', hs'', fun o v hv => ?_, hr'⟩
                obtain ⟨x', hx', hvx⟩ := hcells' o v hv
                exact ⟨x', hx', hvx.sub hsub⟩
          · rw [hget2] at hC hD
            by_cases ek : k = sx.name
            · subst ek
              have el : l ≠ sx.name := Ne.symm hne
              rw [if_neg el] at hD
              by_cases em : l = m
              · rw [if_pos em] at hD; cases hD
              · rw [if_neg em] at hD
                rw [hτ l el] at hl'
                rw [hτn] at hk; cases hk
                exact absurd hb'.symm (hnotb l D pl em hD hl')
            · rw [if_neg ek] at hC
              by_cases em : k = m
              · rw [if_pos em] at hC; cases hC
              · rw [if_neg em] at hC
                rw [hτ k ek] at hk
                by_cases el : l = sx.name
                · subst el
                  rw [hτn] at hl'; cases hl'
                  exact absurd hb' (hnotb k C pk em hC hk)
                · rw [if_neg el] at hD
                  by_cases em' : l = m
                  · rw [if_pos em'] at hD; cases hD
                  · rw [if_neg em'] at hD
                    rw [hτ l el] at hl'
                    exact hR.apart k l C D pk pl hC hD hne hk hl' hb'
          · have := VR.soft (o := 0) (i := 0) (l := len + n) (c := c') hτn (by simp only; omega) hroom
            simpa using this
        · -- grown
          have hroom : c' < len + n := by omega
          exact grow_case (P := P) (ty := ty) (base := some ⟨p.b, p.base + o, none⟩) (len := len) (c := c') (s := sx) ht hu hni hj hz hzs hb hR1 hlen hfirst hLR hyl
            (fun w' hw' => run_firstCells_some w' j.size len _ len c' olds' b4 fun k v hk => by have := b5 k v hk; rw [add_none]; simp [World.cell?, hw', hw, this]) b3 b4 hroom (by omega)
            (hf _ ⟨Nat.le_refl _, Nat.lt_succ_self _⟩) hG
end
end Go.Proofs.YtofdiilfedjhkaaDoor.E
end

section
/- Slices, lengths, copies, conversions, what may be nil, new rows: the machine's and the model's. -/
set_option linter.unusedVariables false
set_option linter.unusedSimpArgs false
namespace Go.Proofs.YtofdiilfedjhkaaDoor.E
section
variable {P : Program} {Fr : Prot} {G : Nat} {σ : Nm}

/-! ### slices -/
def OR (σ : Nm) : Option Value → Option Value → Prop
  | none, none => True
  | some v, some r => VR σ v r
  | _, _ => False
def bnd (v : Option Value) (d y : Nat) : Option Nat := match v with
  | none => some d
  | some (.int _ i) => if 0 ≤ i ∧ i ≤ (y : Int) then some i.toNat else none
  | _ => none
theorem run_bound {k : IntKind} {i : Int} {y : Nat} {code : BoundsCode} (h : 0 ≤ i ∧ i ≤ (y : Int)) (w : World) : (Instr.sliceBound (.int k i) y code).run P w = .ok i.toNat w := by
  unfold Instr.sliceBound
  simp [asIntOf, pure, Sem.run, bind, Sem.bind, h]
theorem bnd_le {v : Option Value} {d y n : Nat} (h : bnd v d y = some n) (hd : d ≤ y) : n ≤ y := by
  unfold bnd at h
  split at h
  · cases h; exact hd
  · split at h
    · cases h; omega
    · cases h
  · cases h
theorem run_bounds {sl : Bool} {len cap cap' : Nat} {lo hi lo' hi' : Option Value} {l h : Nat} (h1 : bnd hi len cap = some h) (h2 : bnd lo 0 h = some l) (hc : cap ≤ cap') (r1 : OR σ lo lo') (r2 : OR σ hi hi') (w : World) :
    (Instr.sliceBounds sl len cap' lo' hi' none).run P w = .ok (l, h, cap') w := by
  unfold Instr.sliceBounds bnd at *
  have key : ∀ (v v' : Option Value) (d y y' m : Nat) (code : BoundsCode), (match v with | none => some d | some (.int _ i) => if 0 ≤ i ∧ i ≤ (y : Int) then some i.toNat else none | _ => none) = some m → OR σ v v' → y ≤ y' →
      (v = none ∧ v' = none ∧ m = d) ∨ ∃ k i, v' = some (.int k i) ∧ 0 ≤ i ∧ i ≤ (y' : Int) ∧ m = i.toNat := by
    intro v v' d y y' m code h r hy
    cases v with
    | none => cases v' with
      | none => simp at h; exact .inl ⟨rfl, rfl, h.symm⟩
      | some x => exact r.elim
    | some x => cases v' with
      | none => exact r.elim
      | some x' =>
        right
        cases x <;> try (simp at h; done)
        rename_i k i
        cases r
        simp only at h
        split at h
        · rename_i hb; cases h; exact ⟨k, i, rfl, hb.1, by omega, rfl⟩
        · cases h
  rcases key hi hi' len cap cap' h .index h1 r2 hc with ⟨rfl, rfl, rfl⟩ | ⟨k, i, rfl, a1, a2, rfl⟩ <;>
  rcases key lo lo' 0 _ _ l .index h2 r1 (Nat.le_refl _) with ⟨rfl, rfl, rfl⟩ | ⟨k', i', rfl, b1, b2, rfl⟩
  · simp [pure, Sem.run, bind, Sem.bind]
  · simp [pure, Sem.run, bind, Sem.bind, Sem.run_bind', run_bound (P := P) ⟨b1, b2⟩]
  · simp [pure, Sem.run, bind, Sem.bind, Sem.run_bind', run_bound (P := P) ⟨a1, a2⟩]
  · simp [pure, Sem.run, bind, Sem.bind, Sem.run_bind', run_bound (P := P) ⟨a1, a2⟩, run_bound (P := P) ⟨b1, b2⟩]

def sliceE (P : Program) (t : TypeId) (x : Value) (lo hi : Option Value) : Ev Value :=
  match P.underlying t, x with
  | some (.slice elem), .slice (some ⟨n, o, none⟩) len c => match P.info? elem with
    | some j => match Nat.blt c softCap with
      | true => match bnd hi len c with
        | some h => match bnd lo 0 h with
          | some l => .pure (.slice (some ⟨n, match Nat.beq c l with | true => o | false => o + l * j.size, none⟩) (h - l) (c - l))
          | none => .fail
        | none => .fail
      | false => match bnd hi len len with
        | some h => match bnd lo 0 h with
          | some 0 => .pure (.slice (some ⟨n, o, none⟩) h c)
          | some l => match Nat.blt l h with
            | true => .pure (.slice (some ⟨n, o + l * j.size, none⟩) (h - l) (softCap + (c - softCap + l)))
            | false => .fail
          | none => .fail
        | none => .fail
    | none => .fail
  | some (.array m elem), .pointer (some ⟨n, o, none⟩) => match P.info? elem with
    | some j => match Nat.blt m softCap with
      | true => match bnd hi m m with
        | some h => match bnd lo 0 h with
          | some l => .pure (.slice (some ⟨n, match Nat.beq m l with | true => o | false => o + l * j.size, none⟩) (h - l) (m - l))
          | none => .fail
        | none => .fail
      | false => .fail
    | none => .fail
  | _, _ => .fail
theorem framed_sliceE (P : Program) (t : TypeId) (x : Value) (lo hi : Option Value) : Framed (sliceE P t x lo hi) := by
  unfold sliceE
  (repeat' split) <;> first | exact framed_pure _ | exact framed_fail

theorem vr_cut {n o l h c size : Nat} {p : Place} (hσ : σ n = some p) (hc : c < softCap) :
    VR σ (.slice (some ⟨n, match Nat.beq c l with | true => o | false => o + l * size, none⟩) (h - l) (c - l)) (.slice (if c = l then some ⟨p.b, p.base + o, none⟩ else some (Addr.add ⟨p.b, p.base + o, none⟩ (l * size))) (h - l) (c - l)) := by
  by_cases e : c = l
  · rw [if_pos e]
    have : Nat.beq c l = true := by rw [e]; exact Nat.beq_refl _
    rw [this]
    exact .slc hσ (by omega)
  · rw [if_neg e]
    have : Nat.beq c l = false := by
      cases hb : Nat.beq c l with
      | true => exact absurd (Nat.eq_of_beq_eq_true hb) e
      | false => rfl
    rw [this, add_none, Nat.add_assoc]
    exact .slc hσ (by omega)
theorem sim_sliceE {t : TypeId} {x y : Value} {lo hi lo' hi' : Option Value} (hx : VR σ x y) (h1 : OR σ lo lo') (h2 : OR σ hi hi') :
    Sim P Fr G σ (sliceE P t x lo hi) VR (runS P (Instr.sliceAt t y lo' hi' none)) := by
  unfold sliceE
  split
  · rename_i elem n o len c hu
    split <;> try exact sim_fail
    rename_i j hj
    cases hc : Nat.blt c softCap with
    | true =>
      have hc : c < softCap := by simpa [Nat.blt_eq] using hc
      simp only
      cases hh : bnd hi len c with
      | none => exact sim_fail
      | some h =>
        simp only
        cases hl : bnd lo 0 h with
        | none => exact sim_fail
        | some l =>
          have hs2 : ∃ p, σ n = some p ∧ y = .slice (some ⟨p.b, p.base + o, none⟩) len c := by
            cases hx with
            | slc hσ _ => exact ⟨_, hσ, rfl⟩
            | soft hσ h _ => omega
          obtain ⟨p, hσ, rfl⟩ := hs2
          refine sim_run (fun w => ?_) (vr_cut hσ hc)
          unfold Instr.sliceAt
          simp only [Sem.run_bind, Go.run_underlying hu, Result.andThen_ok, Instr.slice, run_bounds (P := P) hh hl (Nat.le_refl _) h1 h2, run_sizeOf hj]
          rfl
    | false =>
      have hc : softCap ≤ c := by
        rcases Nat.lt_or_ge c softCap with h | h
        · rw [show Nat.blt c softCap = true from Nat.ble_eq_true_of_le h] at hc; cases hc
        · exact h
      simp only
      have hs2 : ∃ p c' i, σ n = some p ∧ c = softCap + i ∧ c' + i = p.cap ∧ len ≤ c' ∧ y = .slice (some ⟨p.b, p.base + o, none⟩) len c' := by
        cases hx with
        | slc hσ h => omega
        | soft hσ h1 h2 => exact ⟨_, _, _, hσ, rfl, h1, h2, rfl⟩
      obtain ⟨p, c', i, hσ, rfl, hci, hlc, rfl⟩ := hs2
      cases hh : bnd hi len len with
      | none => exact sim_fail
      | some h =>
        simp only
        have hhl := bnd_le hh (Nat.le_refl _)
        have hrun : ∀ l, bnd lo 0 h = some l → ∀ w, (Instr.sliceAt t (.slice (some ⟨p.b, p.base + o, none⟩) len c') lo' hi' none).run P w =
            .ok (.slice (if c' = l then some ⟨p.b, p.base + o, none⟩ else some (Addr.add ⟨p.b, p.base + o, none⟩ (l * j.size))) (h - l) (c' - l)) w := by
          intro l hl w
          have hh' : bnd hi len c' = some h := by
            unfold bnd at hh ⊢
            split at hh
            · exact hh
            · split at hh
              · rename_i hb; rw [if_pos ⟨hb.1, by omega⟩]; exact hh
              · cases hh
            · cases hh
          unfold Instr.sliceAt
          simp only [Sem.run_bind, Go.run_underlying hu, Result.andThen_ok, Instr.slice, run_bounds (P := P) hh' hl (Nat.le_refl _) h1 h2, run_sizeOf hj]
          rfl
        cases hl : bnd lo 0 h with
        | none => exact sim_fail
        | some l =>
          have hll := bnd_le hl (Nat.zero_le _)
          cases l with
          | zero =>
            refine sim_run (hrun 0 hl) ?_
            have e : (if c' = 0 then some (⟨p.b, p.base + o, none⟩ : Addr) else some (Addr.add ⟨p.b, p.base + o, none⟩ (0 * j.size))) = some ⟨p.b, p.base + o, none⟩ := by
              split <;> simp [add_none]
            rw [e]
            simp only [Nat.sub_zero]
            exact .soft hσ hci (by omega)
          | succ l =>
            simp only
            cases hlt : Nat.blt (l + 1) h with
            | false => exact sim_fail
            | true =>
              have hlt : l + 1 < h := by simpa [Nat.blt_eq] using hlt
              refine sim_run (hrun (l + 1) hl) ?_
              rw [if_neg (by omega), add_none, Nat.add_sub_cancel_left, Nat.add_assoc]
              exact .soft hσ (by omega) (by omega)
  · rename_i m elem n o hu
    split <;> try exact sim_fail
    rename_i j hj
    cases hc : Nat.blt m softCap with
    | false => exact sim_fail
    | true =>
      have hc : m < softCap := by simpa [Nat.blt_eq] using hc
      simp only
      cases hh : bnd hi m m with
      | none => exact sim_fail
      | some h =>
        simp only
        cases hl : bnd lo 0 h with
        | none => exact sim_fail
        | some l =>
          cases hx with
          | ptr hσ =>
            rename_i p
            refine sim_run (d := .slice (if m = l then some ⟨p.b, p.base + o, none⟩ else some (Addr.add ⟨p.b, p.base + o, none⟩ (l * j.size))) (h - l) (m - l)) (fun w => ?_) (vr_cut hσ hc)
            unfold Instr.sliceAt
            simp only [Sem.run_bind, Go.run_underlying hu, Result.andThen_ok, run_bounds (P := P) hh hl (Nat.le_refl _) h1 h2, run_sizeOf hj, Instr.sureAddr, pure, Sem.run]
            by_cases e : m = l <;> simp [e]
  · exact sim_fail

/-! ### lengths, what may be nil -/
def lenV : Value → Option Nat
  | .slice _ n _ => some n
  | .string b => some b.size
  | _ => none
def lenE (P : Program) (t : TypeId) (x : Value) : Ev Value :=
  match P.underlying t, x with
  | some (.slice _), .slice _ n _ => .pure (.int .i64 n)
  | _, _ => .fail
theorem framed_lenE (P : Program) (t : TypeId) (x : Value) : Framed (lenE P t x) := by
  unfold lenE
  (repeat' split) <;> first | exact framed_pure _ | exact framed_fail
theorem sim_lenE {t ty : TypeId} {x y : Value} (hx : VR σ x y) : Sim P Fr G σ (lenE P t x) VR (runS P (Builtin.len_ #[t] ty #[y])) := by
  unfold lenE
  split
  · rename_i e a n c hu
    have : ∀ a' c', Sim P Fr G σ (Ev.pure (Value.int .i64 n)) VR (runS P (Builtin.len_ #[t] ty #[.slice a' n c'])) := fun a' c' =>
      sim_run (d := .int .i64 n) (fun w => by simp [Builtin.len_, Sem.run_bind, Go.run_underlying hu, goInt, pure, Sem.run]) (.int _ _)
    cases hx <;> exact this _ _
  · exact sim_fail

/-- Against nil. -/
def nilV : Value → Value → Option Bool
  | .pointer none, .pointer b => some b.isNone
  | .pointer (some _), .pointer none => some false
  | .slice none _ _, .slice b _ _ => some b.isNone
  | .slice (some _) _ _, .slice none _ _ => some false
  | .nilFunc, .func _ _ _ | .func _ _ _, .nilFunc => some false
  | _, _ => none
def fits : TypeDesc → Value → Bool
  | .pointer _, .pointer _ | .slice _, .slice _ _ _ | .func _ _ _, .nilFunc | .func _ _ _, .func _ _ _ => true
  | _, _ => false
def eqE (P : Program) (neg : Bool) (t : TypeId) (x y : Value) : Ev Value :=
  match P.underlying t, nilV x y with
  | some d, some b => match fits d x with
    | true => .pure (.bool (cond neg (!b) b))
    | false => .fail
  | _, _ => .fail
theorem framed_eqE (P : Program) (neg : Bool) (t : TypeId) (x y : Value) : Framed (eqE P neg t x y) := by
  unfold eqE
  (repeat' split) <;> first | exact framed_pure _ | exact framed_fail
theorem run_eq_nil {t : TypeId} {d : TypeDesc} {x y x' y' : Value} {b : Bool} (hu : P.underlying t = some d) (hb : nilV x y = some b) (hf : fits d x = true) (hx : VR σ x x') (hy : VR σ y y') (w : World) :
    (Op.equal t x' y').run P w = .ok b w := by
  unfold Op.equal
  rw [show Op.maxDepth = 9999 + 1 from rfl]
  unfold Op.equalIn
  rw [show (underlying t >>= _) = (underlying t).bind _ from rfl, Sem.run_bind', Go.run_underlying hu]
  simp only [Result.andThen_ok]
  cases hx <;> cases hy <;> simp [nilV] at hb <;> subst hb <;> cases d <;> simp [fits] at hf <;> rfl
theorem sim_eqE {op : BinOp} {neg : Bool} (hop : (op = .eql ∧ neg = false) ∨ (op = .neq ∧ neg = true)) {t : TypeId} {ox oy : Operand} {x y x' y' : Value} (hx : VR σ x x') (hy : VR σ y y') :
    Sim P Fr G σ (eqE P neg t x y) VR (runS P (do eqGuard op t ox oy x' y'; binOp op t x' y')) := by
  unfold eqE
  split <;> try exact sim_fail
  rename_i d b hu hb
  cases hf : fits d x with
  | false => exact sim_fail
  | true =>
    have hr := run_eq_nil hu hb hf hx hy
    refine sim_run (d := .bool (cond neg (!b) b)) (fun w => ?_) (.bool _)
    have hg : ∀ w, (eqGuard op t ox oy x' y').run P w = .ok () w := by
      intro w
      rcases hop with ⟨rfl, rfl⟩ | ⟨rfl, rfl⟩ <;> cases hx <;> cases hy <;> simp [nilV] at hb <;> rfl
    rw [Sem.run_bind, hg w]
    simp only [Result.andThen_ok]
    have hbin : binOp op t x' y' = (Op.equal t x' y').bind fun q => Sem.pure (.bool (cond neg (!q) q)) := by
      rcases hop with ⟨rfl, rfl⟩ | ⟨rfl, rfl⟩ <;> cases hx <;> cases hy <;> simp [nilV] at hb <;> rfl
    rw [hbin, Sem.run_bind', hr w]
    rfl
end
end Go.Proofs.YtofdiilfedjhkaaDoor.E
end

section
/- copy, conversions between strings and bytes, rows that are made. -/
set_option linter.unusedVariables false
set_option linter.unusedSimpArgs false
namespace Go.Proofs.YtofdiilfedjhkaaDoor.E
section
variable {P : Program} {Fr : Prot} {G : Nat} {σ : Nm}

/-- The first elements. -/
def firstE (size n : Nat) : Value → Ev (List Value)
  | .slice (some ⟨m, q, none⟩) _ _ => rds m q (n * size)
  | .slice none _ _ => match n with
    | 0 => .pure []
    | _ => .fail
  | .string b => match Nat.beq size 1 && Nat.ble n b.size with
    | true => .pure ((b.data.toList.take n).map fun c => .int .u8 c.toNat)
    | false => .fail
  | _ => .fail
theorem framed_firstE (size n : Nat) (v : Value) : Framed (firstE size n v) := by
  unfold firstE
  (repeat' split) <;> first | exact framed_rds _ _ _ | exact framed_pure _ | exact framed_fail
theorem first_real {size n : Nat} {x y : Value} (hxy : VR σ x y) {H : Tr} {w : World} (hR : Rel P Fr G σ H w) {s : Sup} {r : Res (List Value)} (h : firstE size n x H s = some r) :
    r.hp = H ∧ r.sup = s ∧ ∃ l, LR σ r.val l ∧ l.length = n * size ∧ ∀ w', w'.heap = w.heap → (Builtin.firstCells size n y).run P w' = .ok l.toArray w' := by
  unfold firstE at h
  split at h
  · rename_i m q k c
    have key : ∀ (p : Place) (c' : Nat), σ m = some p → r.hp = H ∧ r.sup = s ∧ ∃ l, LR σ r.val l ∧ l.length = n * size ∧
        ∀ w', w'.heap = w.heap → (Builtin.firstCells size n (.slice (some ⟨p.b, p.base + q, none⟩) k c')).run P w' = .ok l.toArray w' := by
      intro p c' hσ
      obtain ⟨a1, a2, l, a3, a4, a5⟩ := rds_real hσ hR _ _ _ _ h
      refine ⟨a1, a2, l, a3, a4, fun w' hw' => ?_⟩
      refine run_firstCells_some w' size n _ k c' l a4 fun j v hj => ?_
      have := a5 j v hj
      rw [add_none]
      simpa [World.cell?, hw'] using this
    cases hxy with
    | slc hσ hc => exact key _ _ hσ
    | soft hσ hc hl => exact key _ _ hσ
  · rename_i k c
    split at h
    · simp only [Ev.pure, Option.some.injEq] at h
      subst h
      cases hxy
      exact ⟨rfl, rfl, [], .nil _, by simp, fun w' _ => by simp [Builtin.firstCells, pure, Sem.run]⟩
    · simp [Ev.fail] at h
  · rename_i b
    cases hb : (Nat.beq size 1 && Nat.ble n b.size) with
    | false => simp only [hb, Ev.fail] at h; cases h
    | true =>
      simp only [hb, Ev.pure, Option.some.injEq] at h
      subst h
      cases hxy
      simp only [Bool.and_eq_true, Nat.ble_eq] at hb
      obtain ⟨hb1, hb2⟩ := hb
      have : size = 1 := Nat.eq_of_beq_eq_true hb1
      subst this
      refine ⟨rfl, rfl, (b.data.toList.take n).map fun c => .int .u8 c.toNat, ⟨rfl, fun i v r hv hr => ?_⟩, ?_, fun w' _ => ?_⟩
      · rw [hv] at hr; cases hr
        rw [List.getElem?_map] at hv
        cases hq : (b.data.toList.take n)[i]? with
        | none => simp [hq] at hv
        | some c => simp only [hq, Option.map_some, Option.some.injEq] at hv; subst hv; exact .int _ _
      · have h3 : b.data.toList.length = b.size := rfl
        rw [List.length_map, List.length_take, h3]; omega
      · simp only [Builtin.firstCells, pure, Sem.run]
        congr 1
        apply Array.ext'
        have : (b.extract 0 n).data.toList = b.data.toList.take n := by
          rw [ByteArray.data_extract]; simp
        simp [this]
  · simp [Ev.fail] at h

def copyE (P : Program) (t : TypeId) (d s : Value) : Ev Value :=
  match P.underlying t, d, lenV s with
  | some (.slice elem), .slice (some ⟨m, o, none⟩) dl _, some sl => match P.info? elem with
    | some j => (firstE j.size (Nat.min sl dl) s).bind fun l => match l.all flat with
      | true => (wrs m o l).bind fun _ => .pure (.int .i64 (Nat.min sl dl))
      | false => .fail
    | none => .fail
  | _, _, _ => .fail
theorem framed_copyE (P : Program) (t : TypeId) (d s : Value) : Framed (copyE P t d s) := by
  unfold copyE
  split <;> try exact framed_fail
  split <;> try exact framed_fail
  refine framed_bind (framed_firstE _ _ _) fun l => ?_
  split
  · exact framed_bind (framed_wrs _ _ _) fun _ => framed_pure _
  · exact framed_fail
theorem sim_copyE {t u ty : TypeId} {d s d' s' : Value} (hd : VR σ d d') (hs : VR σ s s') : Sim P Fr G σ (copyE P t d s) VR (runS P (Builtin.copy_ #[t, u] ty #[d', s'])) := by
  unfold copyE
  split <;> try exact sim_fail
  rename_i elem m o dl c sl hu hlv
  split <;> try exact sim_fail
  rename_i j hj
  intro H sp r w hr hn hR hf hG
  obtain ⟨r₁, r₂, h₁, h₂, rfl⟩ := bind_eq hr
  obtain ⟨e1, e2, ys, hLR, hyl, hfirst⟩ := first_real hs hR h₁
  obtain ⟨xs, Hx, sx, lx, px⟩ := r₁
  simp only at e1 e2 hLR hfirst h₂ hf hn ⊢
  subst e1 e2
  have hfl : xs.all flat = true := by
    cases hq : xs.all flat with
    | true => rfl
    | false => rw [hq] at h₂; cases h₂
  rw [hfl] at h₂
  obtain ⟨r₃, r₄, h₃, h₄, rfl⟩ := bind_eq h₂
  simp only [Ev.pure, Option.some.injEq] at h₄
  subst h₄
  simp only at hf hn ⊢
  have hlen : ∀ w', (Builtin.lenOf s').run P w' = .ok sl w' := by
    intro w'
    cases hs <;> simp [lenV] at hlv <;> subst hlv <;> rfl
  have key : ∀ (p : Place) (c' : Nat), σ m = some p → runS P (Builtin.copy_ #[t, u] ty #[.slice (some ⟨p.b, p.base + o, none⟩) dl c', s']) w fun y w' =>
      ∃ τ, Aft σ τ sx.name r₃.sup.name ∧ Rel P Fr G τ r₃.hp w' ∧ Out Fr w w' ∧ VR τ (.int .i64 (Nat.min sl dl)) y := by
    intro p c' hσ
    obtain ⟨_, w', hst, τ, a1, a2, a3, _⟩ := sim_wrs hσ xs ys o 0 (p.base + o) hLR (List.all_eq_true.1 hfl) (by omega) Hx sx r₃ w h₃ (all_app (all_app hn).2).1 hR hf hG
    have hf2 := hfirst w rfl
    refine ⟨.int .i64 (Nat.min sl dl), w', ?_, τ, a1, a2, a3, .int _ _⟩
    simp [Builtin.copy_, Go.run_underlying hu, sizeOf, typeInfo, hj, hlen, hf2, hst, goInt]
  cases hd with
  | slc hσ _ => exact key _ _ hσ
  | soft hσ _ _ => exact key _ _ hσ

/-! ### strings and bytes -/
def byteOf? : Value → Option UInt8
  | .int .u8 n => some (UInt8.ofNat n.toNat)
  | _ => none
def bytesOf? : List Value → Option (List UInt8)
  | [] => some []
  | v :: l => match byteOf? v, bytesOf? l with
    | some b, some m => some (b :: m)
    | _, _ => none
theorem bytesOf_spec {σ : Nm} : ∀ (l l' : List Value) (bs : List UInt8), bytesOf? l = some bs → LR σ l l' → ∃ ns : List Int, l' = ns.map (Value.int .u8) ∧ bs = ns.map fun n => UInt8.ofNat n.toNat := by
  intro l
  induction l with
  | nil => intro l' bs h hl; cases l' with
    | nil => simp [bytesOf?] at h; exact ⟨[], rfl, by simp [h]⟩
    | cons => simp [LR] at hl
  | cons v l ih => intro l' bs h hl; cases l' with
    | nil => simp [LR] at hl
    | cons r l' =>
      have hv := hl.2 0 v r (by simp) (by simp)
      unfold bytesOf? at h
      cases v <;> try (simp [byteOf?] at h; done)
      rename_i k n
      cases k <;> try (simp [byteOf?] at h; done)
      cases hv
      simp only [byteOf?] at h
      cases hb : bytesOf? l with
      | none => simp [hb] at h
      | some m =>
        simp only [hb, Option.some.injEq] at h
        obtain ⟨ns, rfl, rfl⟩ := ih l' m hb ⟨by have := hl.1; simpa using this, fun i x y hx hy => hl.2 (i + 1) x y (by simpa using hx) (by simpa using hy)⟩
        exact ⟨n :: ns, rfl, by rw [← h]; rfl⟩
theorem foldl_push : ∀ (ns : List Int) (s : ByteArray), ns.foldl (fun r n => r.push (UInt8.ofNat n.toNat)) s = ⟨s.data ++ (ns.map fun n => UInt8.ofNat n.toNat).toArray⟩ := by
  intro ns
  induction ns with
  | nil => intro s; simp
  | cons n ns ih =>
    intro s
    rw [List.foldl_cons, ih]
    congr 1
    apply Array.ext'
    simp [ByteArray.push]
def convE (P : Program) (src dst : TypeId) (x : Value) : Ev Value :=
  match P.underlying src, P.underlying dst, x with
  | some (.slice e), some .string, .slice (some ⟨n, o, none⟩) len _ => match P.underlying e with
    | some (.int .u8) => (rds n o len).bind fun l => match bytesOf? l with
      | some bs => .pure (.string ⟨bs.toArray⟩)
      | none => .fail
    | _ => .fail
  | some .string, some (.slice e), .string b => match P.underlying e, P.info? e with
    | some (.int .u8), some j => match Nat.beq j.size 1 && Nat.ble b.size 1048576 with
      | true => newSoft e (b.data.toList.map fun c => .int .u8 c.toNat) b.size
      | false => .fail
    | _, _ => .fail
  | _, _, _ => .fail
theorem framed_convE (P : Program) (src dst : TypeId) (x : Value) : Framed (convE P src dst x) := by
  unfold convE
  split <;> try exact framed_fail
  · split <;> try exact framed_fail
    refine framed_bind (framed_rds _ _ _) fun l => ?_
    split <;> first | exact framed_pure _ | exact framed_fail
  · split <;> try exact framed_fail
    split <;> first | exact framed_newSoft _ _ _ | exact framed_fail
theorem sim_convE {src dst : TypeId} {x y : Value} (hx : VR σ x y) : Sim P Fr G σ (convE P src dst x) VR (runS P (convert src dst y)) := by
  unfold convE
  split <;> try exact sim_fail
  · rename_i e n o len c hs hd
    split <;> try exact sim_fail
    rename_i he
    intro H sp r w hr hn hR hf hG
    obtain ⟨r₁, r₂, h₁, h₂, rfl⟩ := bind_eq hr
    cases hb : bytesOf? r₁.val with
    | none => simp only [hb, Ev.fail] at h₂; cases h₂
    | some bs =>
      simp only [hb, Ev.pure, Option.some.injEq] at h₂
      subst h₂
      have key : ∀ (p : Place) (c' : Nat), σ n = some p → runS P (convert src dst (.slice (some ⟨p.b, p.base + o, none⟩) len c')) w fun y w' =>
          ∃ τ, Aft σ τ sp.name r₁.sup.name ∧ Rel P Fr G τ r₁.hp w' ∧ Out Fr w w' ∧ VR τ (.string ⟨bs.toArray⟩) y := by
        intro p c' hσ
        obtain ⟨a1, a2, l, a3, a4, a5⟩ := rds_real hσ hR _ _ _ _ h₁
        obtain ⟨ns, rfl, rfl⟩ := bytesOf_spec _ _ _ hb a3
        have hload : (loadCells ⟨p.b, p.base + o, none⟩ len).run P w = .ok (ns.map (Value.int .u8)).toArray w := by
          rw [← a4]
          exact run_loadCells_list w _ _ fun j v hj => by rw [add_none]; exact a5 j v hj
        refine ⟨_, w, by rw [run_convert_bytes_string w src dst e _ _ _ hs he hd, run_bytesToString w _ _ _ ns hload], σ, by rw [a2]; exact .refl .., by rw [a1]; exact hR, .refl .., ?_⟩
        rw [foldl_push]
        have : (ByteArray.empty.data ++ (ns.map fun n => UInt8.ofNat n.toNat).toArray) = (ns.map fun n => UInt8.ofNat n.toNat).toArray := by show (#[] : Array UInt8) ++ _ = _; exact Array.empty_append
        rw [this]
        exact .string _
      cases hx with
      | slc hσ hc => exact key _ _ hσ
      | soft hσ hc hl => exact key _ _ hσ
  · rename_i e b hs hd
    split <;> try exact sim_fail
    rename_i j he hj
    cases hb : (Nat.beq j.size 1 && Nat.ble b.size 1048576) with
    | false => exact sim_fail
    | true =>
      simp only [Bool.and_eq_true, Nat.ble_eq] at hb
      obtain ⟨hb1, hb2⟩ := hb
      have hsz : j.size = 1 := Nat.eq_of_beq_eq_true hb1
      cases hx
      intro H sp r w hr hn hR hf hG
      change newSoft e _ _ H sp = some r at hr
      rw [newSoft_eq, Option.some.injEq] at hr
      subst hr
      have hK := grownCap_ge w b.size 0 e
      have hrun := run_bytes_of_string (P := P) w src dst e b hs hd he
      generalize grownCap w b.size 0 e = K at hrun hK
      generalize hrow : bytesRow b K = row at hrun
      unfold bytesRow at hrow
      have hrs : row.size = K := by
        rw [← hrow]
        have h3 : b.data.size = b.size := rfl
        simp only [Array.size_append, Array.size_map, Array.size_replicate, h3]; omega
      have hfn : σ sp.name = none := hf _ ⟨Nat.le_refl _, Nat.lt_succ_self _⟩
      obtain ⟨τ, a1, a2, a3, a4⟩ := rel_new (P := P) (w' := w.drew.alloc (.cells row e (row.size, row.size + 1))) hR hfn hG (B := ⟨b.data.toList.map fun c => .int .u8 c.toNat, e, true, false⟩) (c := row) K (row.size, row.size + 1)
        (by intro o ho; simp only; omega) (by
          have h3 : b.data.toList.length = b.size := rfl
          simp only [List.length_map, h3, hrs]; omega) (fun _ => by simp only [Program.cellsOf, hj, Option.map_some, Option.getD_some, hsz, hrs]; omega)
        (fun o v hv => by
          refine ⟨v, ?_, ?_⟩
          · rw [← hrow]
            have hlt : o < (b.data.map fun c => Value.int .u8 c.toNat).size := by
              rcases Nat.lt_or_ge o (b.data.map fun c => Value.int .u8 c.toNat).size with h | h
              · exact h
              · rw [List.getElem?_eq_none (by simpa using h)] at hv; cases hv
            rw [Array.getElem?_append, if_pos hlt]
            simpa using hv
          · rw [List.getElem?_map] at hv
            cases hq : b.data.toList[o]? with
            | none => simp [hq] at hv
            | some c => simp only [hq, Option.map_some, Option.some.injEq] at hv; subst hv; exact .int _ _) rfl rfl rfl rfl
      refine ⟨_, _, hrun, τ, a1, a3, a4, ?_⟩
      have := VR.soft (o := 0) (i := 0) (l := b.size) (c := K) a2 (by simp) hK
      simpa using this

/-! ### rows that are made -/
def makeE (P : Program) (t : TypeId) (l c : Value) : Ev Value :=
  match P.underlying t, l, c with
  | some (.slice elem), .int _ l, .int _ c => match P.info? elem with
    | some j => match j.zero with
      | some z => match decide (0 ≤ l) && decide (l ≤ c) && decide (c ≤ 1048576) && Nat.ble j.bytes 4096 && z.cells.toList.all (plain 6) with
        | true => (new ⟨((Array.range (c.toNat * j.size)).map (z.cells[· % z.cells.size]!)).toList, elem, false, false⟩).bind fun n => .pure (.slice (some ⟨n, 0, none⟩) l.toNat c.toNat)
        | false => .fail
      | none => .fail
    | none => .fail
  | _, _, _ => .fail
theorem framed_makeE (P : Program) (t : TypeId) (l c : Value) : Framed (makeE P t l c) := by
  unfold makeE
  (repeat' split) <;> first | exact framed_bind (framed_new _) fun _ => framed_pure _ | exact framed_fail
theorem sim_makeE {t : TypeId} {l c l' c' : Value} (hl : VR σ l l') (hc : VR σ c c') : Sim P Fr G σ (makeE P t l c) VR (runS P (Instr.makeSlice t l' c')) := by
  unfold makeE
  split <;> try exact sim_fail
  rename_i elem kl l kc c hu
  split <;> try exact sim_fail
  rename_i j hj
  split <;> try exact sim_fail
  rename_i z hz
  cases hb : (decide (0 ≤ l) && decide (l ≤ c) && decide (c ≤ 1048576) && Nat.ble j.bytes 4096 && z.cells.toList.all (plain 6)) with
  | false => exact sim_fail
  | true =>
    simp only [Bool.and_eq_true, Nat.ble_eq, decide_eq_true_eq] at hb
    obtain ⟨⟨⟨⟨h1, h2⟩, h3⟩, h4⟩, h5⟩ := hb
    cases hl; cases hc
    intro H sp r w hr hn hR hf hG
    obtain ⟨r₁, r₂, g1, g2, rfl⟩ := bind_eq hr
    rw [new_eq, Option.some.injEq] at g1
    subst g1
    simp only [Ev.pure, Option.some.injEq] at g2
    subst g2
    have hrun := run_make (P := P) w t elem j z hu hj hz kl kc l c h1 h2 (by
      have : (j.bytes : Int) * c ≤ 4096 * 1048576 := Int.mul_le_mul (by omega) h3 (by omega) (by omega)
      omega) (by omega)
    have hfn : σ sp.name = none := hf _ ⟨Nat.le_refl _, Nat.lt_succ_self _⟩
    obtain ⟨τ, a1, a2, a3, a4⟩ := rel_new (P := P) (w' := w.alloc (.cells (madeCells z.cells (c.toNat * j.size)) elem)) hR hfn hG
      (B := ⟨((Array.range (c.toNat * j.size)).map (z.cells[· % z.cells.size]!)).toList, elem, false, false⟩) (c := madeCells z.cells (c.toNat * j.size)) 0 (0, 0)
      (by intro o _; simp) (by simp [madeCells]) (by simp) (fun o v hv => by
        have := (ar_cycle (σ := σ) h5 (c.toNat * j.size)).list.get hv
        obtain ⟨r, hr, x⟩ := this
        exact ⟨r, by simp only [madeCells]; rw [← Array.getElem?_toList]; exact hr, x⟩) rfl rfl rfl rfl
    refine ⟨_, _, hrun, τ, a1, a3, a4, ?_⟩
    have := VR.slc (o := 0) (l := l.toNat) (c := c.toNat) a2 (by unfold softCap; omega)
    simpa using this
end
end Go.Proofs.YtofdiilfedjhkaaDoor.E
end

section
/- Structs compared: what is of texts and numbers is held against each other, without parting ways. -/
set_option linter.unusedVariables false
set_option linter.unusedSimpArgs false
namespace Go.Proofs.YtofdiilfedjhkaaDoor.E
def partV (P : Program) (t : TypeId) (cs : Array Value) (off : Nat) : Option Value :=
  match P.underlying t, P.info? t with
  | some d, some i => match isAggD d with
    | true => some (.agg (cs.extract off (off + i.size)))
    | false => cs[off]?
  | _, _ => none
def eqFs (P : Program) (eq : TypeId → Value → Value → Option Bool) (xs ys : Array Value) : List Field → Option Bool
  | [] => some true
  | f :: l => match f.name == "_" with
    | true => eqFs P eq xs ys l
    | false => match partV P f.type xs f.offset, partV P f.type ys f.offset with
      | some a, some b => match eq f.type a b, eqFs P eq xs ys l with
        | some p, some q => some (p && q)
        | _, _ => none
      | _, _ => none
def eqVal (P : Program) : Nat → TypeId → Value → Value → Option Bool
  | 0, _, _, _ => none
  | d + 1, t, x, y => match P.underlying t, x, y with
    | some .bool, .bool a, .bool b => some (a == b)
    | some (.int _), .int k a, .int k' b => if k = k' then some (a == b) else none
    | some .string, .string a, .string b => some (a.toList == b.toList)
    | some (.struct fs), .agg xs, .agg ys => match P.stoodInHeld t with
      | true => none
      | false => eqFs P (eqVal P d) xs ys fs.toList
    | _, _, _ => none
def eqAgg (P : Program) (t : TypeId) (xs ys : Array Value) : Option Bool := match P.eqGuardType P.depth t with
  | true => none
  | false => eqVal P 10000 t (.agg xs) (.agg ys)
section
variable {P : Program} {Fr : Prot} {G : Nat} {σ : Nm}
theorem partV_rel {t : TypeId} {cs ds : Array Value} {off : Nat} {v : Value} (h : partV P t cs off = some v) (hr : AR σ cs ds) : ∃ r, (∀ w, (part t ds off).run P w = .ok r w) ∧ VR σ v r := by
  unfold partV at h
  split at h <;> try (cases h; done)
  rename_i d i hd hi
  split at h
  · rename_i ha
    simp only [Option.some.injEq] at h; subst h
    have hx := hr.extract off (off + i.size)
    exact ⟨.agg (ds.extract off (off + i.size)), fun w => by simp [part, Sem.run_bind, run_isAgg hd, ha, run_sizeOf hi, pure, Sem.run], .agg hx.1 hx.2⟩
  · rename_i ha
    obtain ⟨r, hr, hvr⟩ := hr.get h
    exact ⟨r, fun w => by simp [part, Sem.run_bind, run_isAgg hd, ha, hr, pure, Sem.run], hvr⟩
theorem eqVal_run : ∀ (d : Nat) (t : TypeId) (x y x' y' : Value) (b : Bool), eqVal P d t x y = some b → VR σ x x' → VR σ y y' → ∀ w, (Op.equalIn d t x' y').run P w = .ok b w := by
  intro d
  induction d with
  | zero => intro t x y x' y' b h; simp [eqVal] at h
  | succ d ih =>
    intro t x y x' y' b h hx hy w
    unfold eqVal at h
    split at h <;> try (cases h; done)
    · rename_i a c hu
      simp only [Option.some.injEq] at h; subst h
      cases hx; cases hy
      exact run_equalIn_bool' w d t a c hu
    · rename_i k0 k a k' c hu
      split at h <;> try (cases h; done)
      rename_i hk
      subst hk
      simp only [Option.some.injEq] at h; subst h
      cases hx; cases hy
      exact run_equalIn_int w d t k k0 a c hu
    · rename_i a c hu
      simp only [Option.some.injEq] at h; subst h
      cases hx; cases hy
      exact run_equalIn_string w d t a c hu
    · rename_i fs xs ys hu
      split at h <;> try (cases h; done)
      rename_i hs
      cases hx with
      | agg h1 h2 =>
        cases hy with
        | agg h3 h4 =>
          rename_i xs' ys'
          have hf : P.fieldsOf t = fs := by simp [Program.fieldsOf, hu]
          rw [run_equalIn_struct w d t xs' ys' (by rw [hf]; exact hu) hs, hf]
          have key : ∀ (l : List Field) (b : Bool), eqFs P (eqVal P d) xs ys l = some b → (Op.eqFields d xs' ys' l).run P w = .ok b w := by
            intro l
            induction l with
            | nil => intro b h; simp [eqFs] at h; subst h; simp [Op.eqFields, Sem.run_pure]
            | cons f l ihl =>
              intro b h
              unfold eqFs at h
              split at h
              · rename_i hn
                have hn : f.name = "_" := by simpa using hn
                simp only [Op.eqFields, hn]
                exact ihl b h
              · rename_i hn
                have hn : f.name ≠ "_" := by simpa using hn
                split at h <;> try (cases h; done)
                rename_i u v hu' hv'
                split at h <;> try (cases h; done)
                rename_i p q hp hq
                simp only [Option.some.injEq] at h; subst h
                obtain ⟨ru, r1, r2⟩ := partV_rel (σ := σ) hu' ⟨h1, h2⟩
                obtain ⟨rv, r3, r4⟩ := partV_rel (σ := σ) hv' ⟨h3, h4⟩
                have r5 := ih f.type u v ru rv p hp r2 r4 w
                have r6 := ihl q hq
                simp only [Op.eqFields, if_pos hn, Sem.run_bind, r1, r3, r5, Result.andThen_ok]
                cases p with
                | true => simpa using r6
                | false => simp [Sem.run_pure]
          exact key fs.toList b h
theorem run_eqAgg {neg : Bool} {op : BinOp} (hop : (op = .eql ∧ neg = false) ∨ (op = .neq ∧ neg = true)) {t : TypeId} {ox oy : Operand} {xs ys : Array Value} {x' y' : Value} {b : Bool} (h : eqAgg P t xs ys = some b) (hx : VR σ (.agg xs) x') (hy : VR σ (.agg ys) y') (w : World) :
    (do eqGuard op t ox oy x' y'; binOp op t x' y' : Sem Value).run P w = .ok (.bool (cond neg (!b) b)) w := by
  unfold eqAgg at h
  split at h <;> try (cases h; done)
  rename_i hg
  have hr := eqVal_run 10000 t _ _ x' y' b h hx hy w
  cases hx with
  | agg h1 h2 =>
    cases hy with
    | agg h3 h4 =>
      rename_i xs' ys'
      rw [Sem.run_bind, run_eqGuard_agg w op t ox oy xs' ys' hg]
      simp only [Result.andThen_ok]
      rcases hop with ⟨rfl, rfl⟩ | ⟨rfl, rfl⟩
      · rw [run_eql_struct, hr]; rfl
      · rw [run_neq_struct, hr]; rfl
end
end Go.Proofs.YtofdiilfedjhkaaDoor.E
end

section
/- One operation: the machine's and the model's. -/
set_option linter.unusedVariables false
set_option linter.unusedSimpArgs false
namespace Go.Proofs.YtofdiilfedjhkaaDoor.E

def valE (e : Ev Value) : Ev NR := e.bind fun v => .pure (.val v)
def isSelect : Op → Bool
  | .select _ _ => true
  | _ => false
def plainOp (P : Program) (ρ : Operand → Value) (o : Oper) : Ev NR :=
  match !isSelect o.op && o.op.operands.toList.all (fun x => plain 6 (ρ x)) with
  | true => plainE P (execOp ρ o)
  | false => .fail
/-- Texts put together: where their lengths are not known, it is to be shown that they may be. -/
def catE (a b : ByteArray) (S : Sem Next) (P : Program) : Ev NR := ask.bind fun
  | .bit _ => (need (a.size + b.size ≤ 9223372036854775807)).bind fun _ => .pure (.val (.string (a ++ b)))
  | _ => match runPlain P S with
    | some n => plainNext n
    | none => .fail
/-- Two values held against each other. -/
def binO (P : Program) (ρ : Operand → Value) (o : Oper) (op : BinOp) (t : TypeId) (x y : Value) : Ev NR := match op, x, y with
  | .eql, .agg xs, .agg ys => match eqAgg P t xs ys with
    | some b => .pure (.val (.bool b))
    | none => plainOp P ρ o
  | .neq, .agg xs, .agg ys => match eqAgg P t xs ys with
    | some b => .pure (.val (.bool (!b)))
    | none => plainOp P ρ o
  | .add, .string a, .string b => catE a b (execOp ρ o) P
  | _, _, _ => plainOp P ρ o
def pickE (c a b : Value) : Ev NR := match c with
  | .bool t => ask.bind fun
    | .bit u => (need (t = u)).bind fun _ => .pure (.val (cond u a b))
    | _ => .pure (.val (cond t a b))
  | _ => .fail
def allocE (P : Program) (t : TypeId) : Ev NR := match P.info? t with
  | some i => match i.zero with
    | some z => match plain 6 z with
      | true => valE (newE t z)
      | false => .fail
    | none => .fail
  | none => .fail
def fieldE (P : Program) (t : TypeId) (x : Value) (k : Nat) : Ev Value := match P.underlying t, x with
  | some (.struct fields), .agg cs => match fields[k]? with
    | some f => partE P f.type cs f.offset
    | none => .fail
  | _, _ => .fail
def indexE (P : Program) (t : TypeId) (x ix : Value) : Ev Value := match P.underlying t, x, ix with
  | some (.array len elem), .agg cs, .int _ i => match P.info? elem with
    | some j => if 0 ≤ i ∧ i < (len : Int) then partE P elem cs (i.toNat * j.size) else .fail
    | none => .fail
  | _, _, _ => .fail
def extractE (x : Value) (k : Nat) : Ev NR := match x with
  | .tuple vs => match vs[k]? with
    | some v => .pure (.val v)
    | none => .fail
  | _ => .fail
def ifaceE (P : Program) (t : TypeId) (x : Value) : Ev NR := match P.underlying t with
  | some (.interface _) => .fail
  | some _ => .pure (.val (.iface t x))
  | none => .fail
def callable (P : Program) (g : FuncId) : Bool := match P.funcs[g]? with
  | some fn => !(fn.name == "runtime.NumGoroutine") && !fn.body.isNone
  | none => false
def loadO (P : Program) (t : TypeId) (a : Value) : Ev NR := match a with
  | .pointer (some ⟨n, o, none⟩) => valE (loadE P t n o)
  | _ => .fail
def storeO (P : Program) (t : TypeId) (a x : Value) : Ev NR := match a with
  | .pointer (some ⟨n, o, none⟩) => (storeE P t n o x).bind fun _ => .pure (.val undef)
  | _ => .fail

def opE (P : Program) (ρ : Operand → Value) (o : Oper) : Ev NR :=
  match o.op with
  | .move x => .pure (.val (ρ x))
  | .assign x => .pure (.val (ρ x))
  | .pick c a b => pickE (ρ c) (ρ a) (ρ b)
  | .alloc t => allocE P t
  | .box t x => valE (newE t (ρ x))
  | .build t ps => valE (buildE P t (ps.toList.map fun q => (q.1, ρ q.2)).toArray)
  | .buildSlice t n ps => valE (buildSliceE P t n (ps.toList.map fun q => (q.1, ρ q.2)).toArray)
  | .load t a => loadO P t (ρ a)
  | .store t a x => storeO P t (ρ a) (ρ x)
  | .nilCheck x => match ρ x with
    | .pointer (some a) => .pure (.val (.pointer (some a)))
    | .func (.func f) a c => .pure (.val (.func (.func f) a c))
    | _ => plainOp P ρ o
  | .binOp op t x y _ => match op, nilV (ρ x) (ρ y) with
    | .eql, some _ => valE (eqE P false t (ρ x) (ρ y))
    | .neq, some _ => valE (eqE P true t (ρ x) (ρ y))
    | _, _ => binO P ρ o op t (ρ x) (ρ y)
  | .slice t x lo hi none => match ρ x with
    | .string _ => plainOp P ρ o
    | .slice none _ _ => plainOp P ρ o
    | _ => valE (sliceE P t (ρ x) (lo.map ρ) (hi.map ρ))
  | .fieldAddr s x f => valE (fieldAddrE P s (ρ x) f)
  | .field t x f => valE (fieldE P t (ρ x) f)
  | .indexAddr t x i => valE (indexAddrE P t (ρ x) (ρ i))
  | .index t x i => match ρ x with
    | .agg _ => valE (indexE P t (ρ x) (ρ i))
    | _ => plainOp P ρ o
  | .extract t i => extractE (ρ t) i
  | .convert s d x => match ρ x with
    | .slice (some _) _ _ => valE (convE P s d (ρ x))
    | .string _ => match P.underlying d with
      | some (.slice _) => valE (convE P s d (ρ x))
      | _ => plainOp P ρ o
    | _ => plainOp P ρ o
  | .makeSlice t l c => valE (makeE P t (ρ l) (ρ c))
  | .makeInterface t x => ifaceE P t (ρ x)
  | .makeFunc fn a c => .pure (.val (.func fn (a.map ρ) (c.map ρ)))
  | .call c => match c.callee with
    | .builtin .append => match c.argTypes.toList, c.args.toList with
      | [t, u], [s, x] => valE (appendE P t u (ρ s) (ρ x))
      | _, _ => .fail
    | .builtin .copy => match c.argTypes.toList, c.args.toList with
      | [t, _], [d, s] => valE (copyE P t (ρ d) (ρ s))
      | _, _ => .fail
    | .builtin .len => match c.argTypes.toList, c.args.toList with
      | [t], [x] => match ρ x with
        | .slice _ _ _ => valE (lenE P t (ρ x))
        | _ => plainOp P ρ o
      | _, _ => .fail
    | .value f => match ρ f with
      | .func (.func g) first captured => match callable P g with
        | true => .pure (.enter g (first ++ c.args.map ρ ++ captured))
        | false => plainOp P ρ o
      | _ => plainOp P ρ o
    | _ => plainOp P ρ o
  | _ => plainOp P ρ o

theorem framed_valE {e : Ev Value} (h : Framed e) : Framed (valE e) := framed_bind h fun _ => framed_pure _
theorem framed_plainOp (P : Program) (ρ : Operand → Value) (o : Oper) : Framed (plainOp P ρ o) := by
  unfold plainOp
  split
  · exact framed_plainE _ _
  · exact framed_fail
theorem framed_catE (a b : ByteArray) (S : Sem Next) (P : Program) : Framed (catE a b S P) := by
  unfold catE
  refine framed_bind framed_ask fun x => ?_
  split
  · exact framed_bind (framed_need _) fun _ => framed_pure _
  · split
    · exact framed_plainNext _
    · exact framed_fail
theorem framed_binO (P : Program) (ρ : Operand → Value) (o : Oper) (op : BinOp) (t : TypeId) (x y : Value) : Framed (binO P ρ o op t x y) := by
  unfold binO
  (repeat' split) <;> first | exact framed_pure _ | exact framed_plainOp _ _ _ | exact framed_catE _ _ _ _
theorem framed_pickE (c a b : Value) : Framed (pickE c a b) := by
  unfold pickE
  split
  · refine framed_bind framed_ask fun x => ?_
    split
    · exact framed_bind (framed_need _) fun _ => framed_pure _
    · exact framed_pure _
  · exact framed_fail
theorem framed_opE (P : Program) (ρ : Operand → Value) (o : Oper) : Framed (opE P ρ o) := by
  unfold opE
  split
  · exact framed_pure _
  · exact framed_pure _
  · exact framed_pickE _ _ _
  · unfold allocE
    (repeat' split) <;> first | exact framed_valE (framed_newE _ _) | exact framed_fail
  · exact framed_valE (framed_newE _ _)
  · exact framed_valE (framed_buildE _ _ _)
  · exact framed_valE (framed_buildSliceE _ _ _ _)
  · unfold loadO
    split
    · exact framed_valE (framed_loadE _ _ _ _)
    · exact framed_fail
  · unfold storeO
    split
    · exact framed_bind (framed_storeE _ _ _ _ _) fun _ => framed_pure _
    · exact framed_fail
  · split <;> first | exact framed_pure _ | exact framed_plainOp _ _ _
  · split <;> first | exact framed_valE (framed_eqE _ _ _ _ _) | exact framed_binO _ _ _ _ _ _ _
  · split <;> first | exact framed_plainOp _ _ _ | exact framed_valE (framed_sliceE _ _ _ _ _)
  · exact framed_valE (framed_fieldAddrE _ _ _ _)
  · refine framed_valE ?_
    unfold fieldE
    (repeat' split) <;> first | exact framed_partE _ _ _ _ | exact framed_fail
  · exact framed_valE (framed_indexAddrE _ _ _ _)
  · split
    · refine framed_valE ?_
      unfold indexE
      (repeat' split) <;> first | exact framed_partE _ _ _ _ | exact framed_fail
    · exact framed_plainOp _ _ _
  · unfold extractE
    (repeat' split) <;> first | exact framed_pure _ | exact framed_fail
  · (repeat' split) <;> first | exact framed_valE (framed_convE _ _ _ _) | exact framed_plainOp _ _ _
  · exact framed_valE (framed_makeE _ _ _ _)
  · unfold ifaceE
    (repeat' split) <;> first | exact framed_pure _ | exact framed_fail
  · exact framed_pure _
  · (repeat' split) <;> first | exact framed_valE (framed_appendE _ _ _ _ _) | exact framed_valE (framed_copyE _ _ _ _) | exact framed_valE (framed_lenE _ _ _) | exact framed_pure _ | exact framed_plainOp _ _ _ | exact framed_fail
  · exact framed_plainOp _ _ _

theorem plainOp_congr {P : Program} {ρ ρ' : Operand → Value} (o : Oper) (h : ∀ x ∈ o.op.operands, ρ x = ρ' x) : plainOp P ρ o = plainOp P ρ' o := by
  unfold plainOp
  have e1 : o.op.operands.toList.all (fun x => plain 6 (ρ x)) = o.op.operands.toList.all (fun x => plain 6 (ρ' x)) := by
    rw [Bool.eq_iff_iff, List.all_eq_true, List.all_eq_true]
    constructor <;> intro k x hx
    · rw [← h x (by simpa using hx)]; exact k x hx
    · rw [h x (by simpa using hx)]; exact k x hx
  rw [e1]
  cases hs : isSelect o.op with
  | true => simp
  | false =>
    rw [execOp_congr o (fun cs b he => by rw [he] at hs; simp [isSelect] at hs) h]
theorem opE_congr {P : Program} {ρ ρ' : Operand → Value} (o : Oper) (h : ∀ x ∈ o.op.operands, ρ x = ρ' x) : opE P ρ o = opE P ρ' o := by
  have hp := plainOp_congr (P := P) o h
  have pairs : ∀ ps : Array (Nat × Operand), (∀ x ∈ ps.toList.map (·.2), ρ x = ρ' x) → (ps.toList.map fun q => (q.1, ρ q.2)) = (ps.toList.map fun q => (q.1, ρ' q.2)) := fun ps hq =>
    List.map_congr_left fun q hm => by rw [hq q.2 (List.mem_map.2 ⟨q, hm, rfl⟩)]
  have hx : isSelect o.op = false → execOp ρ o = execOp ρ' o := fun hs => execOp_congr o (fun cs b he => by rw [he] at hs; simp [isSelect] at hs) h
  obtain ⟨dst, op, type, pos, after, guard⟩ := o
  unfold opE binO
  rw [hp]
  cases op <;> simp only [Op.operands] at h <;> simp only
  case build t ps => rw [pairs ps fun x hx => h x (by simpa using hx)]
  case buildSlice t n ps => rw [pairs ps fun x hx => h x (by simpa using hx)]
  case makeFunc fn first captured =>
    rw [Array.map_congr_left (xs := first) fun x hx => h x (by simp [hx]), Array.map_congr_left (xs := captured) fun x hx => h x (by simp [hx])]
  case binOp op t x y yt =>
    rw [hx rfl, h x (by simp), h y (by simp)]
  case slice t x lo hi mx => cases lo <;> cases hi <;> cases mx <;> simp_all
  case call c =>
    have hargs : c.args.map ρ = c.args.map ρ' := Array.map_congr_left fun x hx => h x (by simp [Call.operands, hx])
    have hin : ∀ x ∈ c.args.toList, ρ x = ρ' x := fun x hx => h x (by simp [Call.operands]; exact .inr (by simpa using hx))
    rw [hargs]
    cases hc : c.callee with
    | value f => have hf : ρ f = ρ' f := h f (by simp [Call.operands, hc]); simp only [hf]
    | invoke r m => rfl
    | builtin b =>
      cases b <;> simp only
      all_goals
        split <;> try rfl
        rename_i heq
        simp only [heq, List.mem_cons, List.not_mem_nil, or_false, forall_eq_or_imp, forall_eq] at hin
        simp only [hin]
  all_goals (first | rfl | (simp_all; done))
end Go.Proofs.YtofdiilfedjhkaaDoor.E
end

section
/- One operation, quickly: where it is of numbers, truths, texts. -/
set_option linter.unusedVariables false
set_option linter.unusedSimpArgs false
namespace Go.Proofs.YtofdiilfedjhkaaDoor.E

def kindNo : IntKind → Nat
  | .i8 => 0 | .i16 => 1 | .i32 => 2 | .i64 => 3 | .u8 => 4 | .u16 => 5 | .u32 => 6 | .u64 => 7
theorem kindNo_inj {a b : IntKind} (h : Nat.beq (kindNo a) (kindNo b) = true) : a = b := by cases a <;> cases b <;> first | rfl | cases h
def wrapQ (k : IntKind) (n : Int) : Int := match k, n with
  | .i64, .ofNat m => match Nat.blt m 9223372036854775808 with
    | true => .ofNat m
    | false => IntKind.wrap .i64 (.ofNat m)
  | .u8, .ofNat m => .ofNat (m % 256)
  | .u32, .ofNat m => .ofNat (m % 4294967296)
  | k, n => k.wrap n
theorem wrapQ_eq (k : IntKind) (n : Int) : wrapQ k n = k.wrap n := by
  unfold wrapQ
  split
  · rename_i m
    split
    · rename_i h
      have h : m < 9223372036854775808 := by simpa [Nat.blt_eq] using h
      unfold IntKind.wrap
      simp [IntKind.bits, IntKind.signed]
      have e : ((m : Int) % 18446744073709551616) = m := by omega
      rw [e, if_neg (by omega)]
    · rfl
  · simp [IntKind.wrap, IntKind.bits, IntKind.signed]
  · simp [IntKind.wrap, IntKind.bits, IntKind.signed]
  · rfl
def listEq : List UInt8 → List UInt8 → Bool
  | [], [] => true
  | a :: l, b :: m => match Nat.beq a.toNat b.toNat with
    | true => listEq l m
    | false => false
  | _, _ => false
theorem listEq_eq : ∀ l m : List UInt8, listEq l m = (l == m) := by
  intro l
  induction l with
  | nil => intro m; cases m <;> rfl
  | cons a l ih =>
    intro m
    cases m with
    | nil => rfl
    | cons b m =>
      unfold listEq
      rw [ih]
      cases h : Nat.beq a.toNat b.toNat with
      | true =>
        have : a = b := UInt8.toNat_inj.1 (Nat.eq_of_beq_eq_true h)
        subst this; simp
      | false =>
        have : a ≠ b := fun e => by subst e; rw [Nat.beq_refl] at h; cases h
        simp [this]
def getT : List Value → Nat → Value
  | [], _ => undef
  | v :: l, n => match n with
    | 0 => v
    | m + 1 => getT l m
theorem getT_eq : ∀ (l : List Value) (n : Nat), getT l n = l.getD n undef := by
  intro l
  induction l with
  | nil => intro n; simp [getT]
  | cons v l ih => intro n; cases n <;> simp [getT, ih]
def byteAt : List UInt8 → Nat → Option UInt8
  | [], _ => none
  | b :: l, n => match n with
    | 0 => some b
    | m + 1 => byteAt l m
theorem byteAt_eq : ∀ (l : List UInt8) (n : Nat), byteAt l n = l[n]? := by
  intro l
  induction l with
  | nil => intro n; simp [byteAt]
  | cons v l ih => intro n; cases n <;> simp [byteAt, ih]

def quickInt (op : BinOp) (k : IntKind) (a b : Int) : Option Value := match op with
  | .add => some (.int k (wrapQ k (a + b)))
  | .sub => some (.int k (wrapQ k (a - b)))
  | .mul => some (.int k (wrapQ k (a * b)))
  | .eql => some (.bool (a == b))
  | .neq => some (.bool (a != b))
  | .lss => some (.bool (decide (a < b)))
  | .leq => some (.bool (decide (a ≤ b)))
  | .gtr => some (.bool (decide (a > b)))
  | .geq => some (.bool (decide (a ≥ b)))
  | _ => none
def quickBin (op : BinOp) (x y : Value) : Option Value := match x, y with
  | .int k a, .int k' b => match Nat.beq (kindNo k) (kindNo k') with
    | true => quickInt op k a b
    | false => none
  | .string a, .string b => match op with
    | .eql => some (.bool (listEq a.data.toList b.data.toList))
    | .neq => some (.bool (!listEq a.data.toList b.data.toList))
    | .add => match Nat.ble (a.size + b.size) 1048576 with
      | true => some (.string ⟨(a.data.toList ++ b.data.toList).toArray⟩)
      | false => none
    | _ => none
  | _, _ => none
def quick (P : Program) (ρ : Operand → Value) (op : Op) : Option Value := match op with
  | .move x => some (ρ x)
  | .assign x => some (ρ x)
  | .binOp op _ x y _ => quickBin op (ρ x) (ρ y)
  | .unOp .not _ x => match ρ x with
    | .bool b => some (.bool (!b))
    | _ => none
  | .nilCheck x => match ρ x with
    | .pointer (some a) => some (.pointer (some a))
    | _ => none
  | .extract t i => match ρ t with
    | .tuple vs => vs.toList[i]?
    | _ => none
  | .index t x i => match ρ x, ρ i with
    | .string s, .int _ (.ofNat n) => match P.underlying t with
      | some .string => match byteAt s.data.toList n with
        | some b => some (.int .u8 (.ofNat b.toNat))
        | none => none
      | _ => none
    | _, _ => none
  | .convert s d x => match ρ x with
    | .int _ n => match P.underlying s, P.underlying d with
      | some _, some (.int k) => some (.int k (wrapQ k n))
      | _, _ => none
    | _ => none
  | _ => none

theorem plainOp_val {P : Program} {ρ : Operand → Value} {o : Oper} {v : Value} (hs : isSelect o.op = false) (hp : o.op.operands.toList.all (fun x => plain 6 (ρ x)) = true)
    (hr : runPlain P (execOp ρ o) = some (.value v)) (hv : plain 6 v = true) (H : Tr) (nm : Nat) : plainOp P ρ o H ⟨nm, []⟩ = some ⟨.val v, H, ⟨nm, []⟩, [], []⟩ := by
  simp [plainOp, hs, hp, plainE, Ev.bind, ask, hr, plainNext, hv, Ev.pure]

theorem ba_toList (a : ByteArray) : a.toList = a.data.toList := Go.Lib.toList_data a
theorem quickBin_spec {P : Program} {ρ : Operand → Value} {dst : Option Tmp} {op : BinOp} {t : TypeId} {x y : Operand} {yt ty : TypeId} {pos : String} {after : Array Edge} {g : Option (Nat × Bool)} {v : Value}
    (h : quickBin op (ρ x) (ρ y) = some v) (H : Tr) (nm : Nat) : opE P ρ ⟨dst, .binOp op t x y yt, ty, pos, after, g⟩ H ⟨nm, []⟩ = some ⟨.val v, H, ⟨nm, []⟩, [], []⟩ := by
  have fin : ∀ v, nilV (ρ x) (ρ y) = none → plain 6 (ρ x) = true → plain 6 (ρ y) = true → runPlain P (execOp ρ ⟨dst, .binOp op t x y yt, ty, pos, after, g⟩) = some (.value v) → plain 6 v = true → (∀ cs, ρ x ≠ .agg cs) →
      opE P ρ ⟨dst, .binOp op t x y yt, ty, pos, after, g⟩ H ⟨nm, []⟩ = some ⟨.val v, H, ⟨nm, []⟩, [], []⟩ := by
    intro v h1 h2 h3 h4 h5 h6
    unfold opE
    simp only [h1]
    have hp : plainOp P ρ ⟨dst, .binOp op t x y yt, ty, pos, after, g⟩ H ⟨nm, []⟩ = some ⟨.val v, H, ⟨nm, []⟩, [], []⟩ :=
      plainOp_val rfl (by simp [Op.operands, h2, h3]) h4 h5 H nm
    have hb : binO P ρ ⟨dst, .binOp op t x y yt, ty, pos, after, g⟩ op t (ρ x) (ρ y) H ⟨nm, []⟩ = some ⟨.val v, H, ⟨nm, []⟩, [], []⟩ := by
      have hor : binO P ρ ⟨dst, .binOp op t x y yt, ty, pos, after, g⟩ op t (ρ x) (ρ y) = plainOp P ρ ⟨dst, .binOp op t x y yt, ty, pos, after, g⟩ ∨
          ∃ a b, binO P ρ ⟨dst, .binOp op t x y yt, ty, pos, after, g⟩ op t (ρ x) (ρ y) = catE a b (execOp ρ ⟨dst, .binOp op t x y yt, ty, pos, after, g⟩) P := by
        unfold binO
        split
        · rename_i e _; exact absurd e (h6 _)
        · rename_i e _; exact absurd e (h6 _)
        · exact .inr ⟨_, _, rfl⟩
        · exact .inl rfl
      rcases hor with e | ⟨a, b, e⟩
      · rw [e]; exact hp
      · rw [e]; simp [catE, Ev.bind, ask, h4, plainNext, h5, Ev.pure]
    cases op <;> exact hb
  unfold quickBin at h
  split at h
  · rename_i k a k' b hx hy
    split at h <;> try (cases h; done)
    rename_i hk
    have hk := kindNo_inj hk
    subst hk
    refine fin v (by rw [hx, hy]; rfl) (by rw [hx]; rfl) (by rw [hy]; rfl) ?_ ?_ (fun cs h => by rw [hx] at h; cases h)
    · cases op <;> simp only [quickInt, Option.some.injEq] at h <;> first | (cases h; done) | (subst h; simp only [execOp, hx, hy]; first | rfl | (rw [wrapQ_eq]; simp [eqGuard, binOp, Op.intArith, Op.intCmp, runPlain, bind, Sem.bind, pure]) | simp [eqGuard, binOp, Op.intArith, Op.intCmp, runPlain, bind, Sem.bind, pure])
    · cases op <;> simp only [quickInt, Option.some.injEq] at h <;> first | (cases h; done) | (subst h; rfl)
  · rename_i a b hx hy
    refine fin v (by rw [hx, hy]; rfl) (by rw [hx]; rfl) (by rw [hy]; rfl) ?_ ?_ (fun cs h => by rw [hx] at h; cases h)
    · split at h <;> try (cases h; done)
      · simp only [Option.some.injEq] at h; subst h
        simp [execOp, hx, hy, eqGuard, binOp, Op.stringOp, runPlain, bind, Sem.bind, pure, ba_toList, listEq_eq]
      · simp only [Option.some.injEq] at h; subst h
        simp [execOp, hx, hy, eqGuard, binOp, Op.stringOp, runPlain, bind, Sem.bind, pure, ba_toList, listEq_eq]
      · split at h <;> try (cases h; done)
        rename_i hb
        simp only [Nat.ble_eq] at hb
        simp only [Option.some.injEq] at h; subst h
        have e : (⟨(a.data.toList ++ b.data.toList).toArray⟩ : ByteArray) = a ++ b := by
          apply ByteArray.ext
          apply Array.ext'
          simp
        rw [e]
        have h2 : ¬ (((a.size + b.size : Nat) : Int) > IntKind.i64.max) := by simp [IntKind.max, IntKind.bits, IntKind.signed]; omega
        simp [execOp, hx, hy, eqGuard, binOp, Op.stringOp, runPlain, bind, Sem.bind, pure, -gt_iff_lt]
        rw [if_neg (by omega)]
        rfl
    · split at h <;> try (cases h; done)
      · simp only [Option.some.injEq] at h; subst h; rfl
      · simp only [Option.some.injEq] at h; subst h; rfl
      · split at h <;> try (cases h; done)
        simp only [Option.some.injEq] at h; subst h; rfl
  · cases h
theorem quick_spec {P : Program} {ρ : Operand → Value} {dst : Option Tmp} {op : Op} {ty : TypeId} {pos : String} {after : Array Edge} {g : Option (Nat × Bool)} {v : Value}
    (h : quick P ρ op = some v) (H : Tr) (nm : Nat) : opE P ρ ⟨dst, op, ty, pos, after, g⟩ H ⟨nm, []⟩ = some ⟨.val v, H, ⟨nm, []⟩, [], []⟩ := by
  unfold quick at h
  split at h
  · simp only [Option.some.injEq] at h; subst h; rfl
  · simp only [Option.some.injEq] at h; subst h; rfl
  · exact quickBin_spec h H nm
  · rename_i t x
    split at h <;> try (cases h; done)
    rename_i b hx
    simp only [Option.some.injEq] at h; subst h
    refine plainOp_val (o := ⟨dst, .unOp .not t x, ty, pos, after, g⟩) rfl (by simp [Op.operands, hx, plain]) ?_ rfl H nm
    simp only [execOp, hx]
    rfl
  · rename_i x
    split at h <;> try (cases h; done)
    rename_i a hx
    simp only [Option.some.injEq] at h; subst h
    simp only [opE, hx]
    rfl
  · rename_i t i
    split at h <;> try (cases h; done)
    rename_i vs hx
    have h : vs[i]? = some v := by simpa using h
    simp only [opE, extractE, hx, h]
    rfl
  · rename_i t x i
    split at h <;> try (cases h; done)
    rename_i s k n hx hi
    split at h <;> try (cases h; done)
    rename_i hu
    split at h <;> try (cases h; done)
    rename_i b hb
    simp only [Option.some.injEq] at h; subst h
    rw [byteAt_eq] at hb
    have hlt : n < s.data.toList.length := by
      rcases Nat.lt_or_ge n s.data.toList.length with h | h
      · exact h
      · simp [List.getElem?_eq_none h] at hb
    have hb' : s[n]? = some b := by
      have : s[n]? = s.data.toList[n]? := by
        have hs : n < s.size := hlt
        have hd : n < s.data.size := hlt
        rw [getElem?_pos s n hs, Array.getElem?_toList, getElem?_pos s.data n hd]
        rfl
      rw [this]; exact hb
    simp only [opE, hx]
    refine plainOp_val (o := ⟨dst, .index t x i, ty, pos, after, g⟩) rfl (by simp [Op.operands, hx, hi, plain]) ?_ rfl H nm
    simp only [execOp, hx, hi, Instr.index, asIntOf, bind, Sem.bind, pure, underlying, program, hu, runPlain]
    have : (0 : Int) ≤ Int.ofNat n := Int.natCast_nonneg n
    simp [hb', runPlain, Sem.bind]
  · rename_i s d x
    split at h <;> try (cases h; done)
    rename_i kk n hx
    split at h <;> try (cases h; done)
    rename_i u k hs hd
    simp only [Option.some.injEq] at h; subst h
    simp only [opE, hx]
    refine plainOp_val (o := ⟨dst, .convert s d x, ty, pos, after, g⟩) rfl (by simp [Op.operands, hx, plain]) ?_ rfl H nm
    simp only [execOp, hx, convert, bind, Sem.bind, pure, underlying, program, hs, hd, runPlain]
    rw [wrapQ_eq]
    rfl
  · cases h

def opQ (P : Program) (ρ : Operand → Value) (o : Oper) : Ev NR := fun H s => match quick P ρ o.op, s with
  | some v, ⟨n, []⟩ => some ⟨.val v, H, ⟨n, []⟩, [], []⟩
  | _, s => opE P ρ o H s
theorem opQ_eq (P : Program) (ρ : Operand → Value) (o : Oper) : opQ P ρ o = opE P ρ o := by
  funext H s
  unfold opQ
  split
  · rename_i v n h
    exact (quick_spec (dst := o.dst) (ty := o.type) (pos := o.pos) (after := o.after) (g := o.guard) h H n).symm
  · rfl
end Go.Proofs.YtofdiilfedjhkaaDoor.E
end

section
/- One operation: what the machine does, the model does. -/
set_option linter.unusedVariables false
set_option linter.unusedSimpArgs false
namespace Go.Proofs.YtofdiilfedjhkaaDoor.E
section
variable {P : Program} {Fr : Prot} {G : Nat} {σ : Nm}

theorem sim_valE {e : Ev Value} {S : Sem Value} (h : Sim P Fr G σ e VR (runS P S)) : Sim P Fr G σ (valE e) NRel (runS P (do pure (.value (← S)))) :=
  sim_map (f := NR.val) (g := Next.value) h fun _ _ _ _ x => x
theorem sim_plainOp {ρ ρ' : Operand → Value} {o : Oper} (h : ∀ x ∈ o.op.operands, VR σ (ρ x) (ρ' x)) : Sim P Fr G σ (plainOp P ρ o) NRel (runS P (execOp ρ' o)) := by
  unfold plainOp
  cases hb : (!isSelect o.op && o.op.operands.toList.all (fun x => plain 6 (ρ x))) with
  | false => exact sim_fail
  | true =>
    simp only [Bool.and_eq_true, Bool.not_eq_true', List.all_eq_true] at hb
    rw [← execOp_congr (ρ := ρ) (ρ' := ρ') o (fun cs b he => by rw [he] at hb; simp [isSelect] at hb) fun x hx => plain_eq 6 _ _ (hb.2 x (by simpa using hx)) (h x hx)]
    exact sim_plainE
theorem pr_map {ρ ρ' : Operand → Value} {ps : Array (Nat × Operand)} (h : ∀ x ∈ (ps.toList.map (·.2)).toArray, VR σ (ρ x) (ρ' x)) :
    PR σ (ps.toList.map fun q => (q.1, ρ q.2)).toArray.toList (ps.map fun (i, x) => (i, ρ' x)).toList := by
  refine ⟨by simp, fun i x y hx hy => ?_⟩
  simp only [Array.toList_map] at hx hy
  rw [List.getElem?_map] at hx hy
  cases hq : ps.toList[i]? with
  | none => rw [hq] at hx; cases hx
  | some q =>
    rw [hq] at hx hy
    cases hx; cases hy
    exact ⟨rfl, h q.2 (by simp only [List.mem_toArray, List.mem_map]; exact ⟨q, List.mem_of_getElem? hq, rfl⟩)⟩
theorem ar_map {ρ ρ' : Operand → Value} {a : Array Operand} (h : ∀ x ∈ a, VR σ (ρ x) (ρ' x)) : AR σ (a.map ρ) (a.map ρ') := by
  refine ⟨by simp, fun i x y hx hy => ?_⟩
  rw [Array.getElem?_map] at hx hy
  cases hq : a[i]? with
  | none => rw [hq] at hx; cases hx
  | some q =>
    rw [hq] at hx hy
    cases hx; cases hy
    exact h q (Array.mem_of_getElem? hq)
theorem AR.append {a b c d : Array Value} (h : AR σ a b) (k : AR σ c d) : AR σ (a ++ c) (b ++ d) := by
  refine ⟨by simp [h.1, k.1], fun i x y hx hy => ?_⟩
  rw [← Array.getElem?_toList, Array.toList_append] at hx hy
  have := (h.list.append k.list).2 i x y hx hy
  exact this

theorem sim_fieldE {t : TypeId} {x y : Value} {k : Nat} (h : VR σ x y) : Sim P Fr G σ (fieldE P t x k) VR (runS P (Instr.field t y k)) := by
  unfold fieldE
  split <;> try exact sim_fail
  rename_i fields cs hu
  split <;> try exact sim_fail
  rename_i f hf
  cases h with
  | agg h1 h2 =>
    unfold Instr.field
    refine sim_q (Go.run_underlying hu) ?_
    simp only [hf]
    exact sim_partE ⟨h1, h2⟩
theorem sim_indexE {t : TypeId} {x y ix iy : Value} (h : VR σ x y) (hi : VR σ ix iy) : Sim P Fr G σ (indexE P t x ix) VR (runS P (Instr.index t y iy)) := by
  unfold indexE
  split <;> try exact sim_fail
  rename_i len elem cs k i hu
  split <;> try exact sim_fail
  rename_i j hj
  split <;> try exact sim_fail
  rename_i hb
  cases hi
  cases h with
  | agg h1 h2 =>
    unfold Instr.index
    refine sim_q (d := (k, i)) (fun w => rfl) ?_
    refine sim_q (Go.run_underlying hu) ?_
    simp only [hb, and_self, if_true]
    refine sim_q (run_sizeOf hj) ?_
    exact sim_partE ⟨h1, h2⟩

theorem sim_opE {ρ ρ' : Operand → Value} {o : Oper} (h : ∀ x ∈ o.op.operands, VR σ (ρ x) (ρ' x)) : Sim P Fr G σ (opE P ρ o) NRel (runS P (execOp ρ' o)) := by
  have hpl := sim_plainOp (P := P) (Fr := Fr) (G := G) h
  obtain ⟨dst, op, type, pos, after, guard⟩ := o
  unfold opE
  cases op <;> simp only [Op.operands] at h <;> simp only
  case move x => exact sim_run (d := .value (ρ' x)) (fun w => rfl) (h x (by simp))
  case assign x => exact sim_run (d := .value (ρ' x)) (fun w => rfl) (h x (by simp))
  case pick c a b =>
    have hc := h c (by simp)
    have ha := h a (by simp)
    have hb := h b (by simp)
    unfold pickE
    split <;> try exact sim_fail
    rename_i t ht
    rw [ht] at hc
    generalize hq : ρ' c = q at hc
    cases hc
    have hrun : ∀ w, (execOp ρ' ⟨dst, .pick c a b, type, pos, after, guard⟩).run P w = .ok (.value (cond t (ρ' a) (ρ' b))) w := by
      intro w
      simp only [execOp, hq]
      cases t <;> rfl
    refine sim_ask fun x => ?_
    split
    · rename_i u
      refine sim_need fun hn => ?_
      subst hn
      exact sim_run (d := .value (cond t (ρ' a) (ρ' b))) hrun (by cases t <;> first | exact hb | exact ha)
    · exact sim_run (d := .value (cond t (ρ' a) (ρ' b))) hrun (by cases t <;> first | exact hb | exact ha)
  case alloc t =>
    unfold allocE
    split <;> try exact sim_fail
    rename_i i hi
    split <;> try exact sim_fail
    rename_i z hz
    cases hp : plain 6 z with
    | false => exact sim_fail
    | true =>
      refine sim_valE ?_
      unfold Instr.alloc
      refine sim_q (run_zero hi hz) ?_
      exact sim_newE (plain_refl 6 z hp)
  case box t x => exact sim_valE (sim_newE (h x (by simp)))
  case build t ps => exact sim_valE (sim_buildE (pr_map h))
  case buildSlice t n ps => exact sim_valE (sim_buildSliceE (pr_map h))
  case load t a =>
    have ha := h a (by simp)
    unfold loadO
    split <;> try exact sim_fail
    rename_i n o ht
    rw [ht] at ha
    generalize hq : ρ' a = q at ha
    simp only [execOp, hq]
    cases ha with
    | ptr hσ =>
      refine sim_valE ?_
      unfold Instr.loadAt
      exact sim_loadE hσ
  case store t a x =>
    have ha := h a (by simp)
    have hx := h x (by simp)
    unfold storeO
    split <;> try exact sim_fail
    rename_i n o ht
    rw [ht] at ha
    generalize hq : ρ' a = q at ha
    simp only [execOp, hq]
    cases ha with
    | ptr hσ =>
      refine sim_map (A := fun _ _ _ => True) (g := fun _ => Next.skip) ?_ (fun _ _ _ _ _ => rfl)
      unfold Instr.storeAt
      exact sim_storeE hσ hx
  case nilCheck x =>
    have hx := h x (by simp)
    split
    · rename_i a ht
      rw [ht] at hx
      generalize hq : ρ' x = q at hx
      cases hx with
      | ptr hσ => exact sim_run (d := .value _) (fun w => by simp only [execOp, hq]; rfl) (.ptr hσ)
    · rename_i f a c ht
      rw [ht] at hx
      generalize hq : ρ' x = q at hx
      cases hx with
      | func f h1 h2 h3 h4 => exact sim_run (d := .value _) (fun w => by simp only [execOp, hq]; rfl) (.func _ h1 h2 h3 h4)
    · exact hpl
  case binOp op t x y yt =>
    split
    · exact sim_valE (sim_eqE (.inl ⟨rfl, rfl⟩) (h x (by simp)) (h y (by simp)))
    · exact sim_valE (sim_eqE (.inr ⟨rfl, rfl⟩) (h x (by simp)) (h y (by simp)))
    · have hx := h x (by simp)
      have hy := h y (by simp)
      unfold binO
      split
      · rename_i xs ys ex ey _ _
        rw [ex] at hx; rw [ey] at hy
        split
        · rename_i b hb
          exact sim_run (d := .value (.bool b)) (fun w => by simp only [execOp]; rw [Sem.run_bind, run_eqAgg (P := P) (.inl ⟨rfl, rfl⟩) hb hx hy]; rfl) (.bool _)
        · exact hpl
      · rename_i xs ys ex ey _ _
        rw [ex] at hx; rw [ey] at hy
        split
        · rename_i b hb
          exact sim_run (d := .value (.bool (!b))) (fun w => by simp only [execOp]; rw [Sem.run_bind, run_eqAgg (P := P) (.inr ⟨rfl, rfl⟩) hb hx hy]; rfl) (.bool _)
        · exact hpl
      · rename_i a b ex ey _ _
        rw [ex] at hx; rw [ey] at hy
        generalize hx' : ρ' x = x' at hx
        generalize hy' : ρ' y = y' at hy
        cases hx
        cases hy
        have hex : execOp ρ ⟨dst, .binOp .add t x y yt, type, pos, after, guard⟩ = execOp ρ' ⟨dst, .binOp .add t x y yt, type, pos, after, guard⟩ := by
          simp only [execOp, ex, ey, hx', hy']
        unfold catE
        refine sim_ask fun q => ?_
        split
        · refine sim_need fun hn => ?_
          refine sim_run (d := .value (.string (a ++ b))) (fun w => ?_) (.string _)
          simp only [execOp, hx', hy', binOp, Op.stringOp]
          rw [if_neg (by simp [IntKind.max, IntKind.bits, IntKind.signed]; omega)]
          rfl
        · rw [hex]
          split
          · rename_i n hn
            exact sim_plainNext (run_plain P _ _ hn)
          · exact sim_fail
      · exact hpl
  case slice t x lo hi mx =>
    cases mx with
    | some m => exact hpl
    | none =>
      simp only
      split
      · exact hpl
      · exact hpl
      · refine sim_valE (sim_sliceE (h x (by simp)) ?_ ?_)
        · cases lo with
          | none => trivial
          | some l => exact h l (by simp)
        · cases hi with
          | none => trivial
          | some l => exact h l (by simp)
  case fieldAddr s x f => exact sim_valE (sim_fieldAddrE (h x (by simp)))
  case field t x f => exact sim_valE (sim_fieldE (h x (by simp)))
  case indexAddr t x i => exact sim_valE (sim_indexAddrE (h x (by simp)) (h i (by simp)))
  case index t x i =>
    split
    · exact sim_valE (sim_indexE (h x (by simp)) (h i (by simp)))
    · exact hpl
  case extract t i =>
    have ht := h t (by simp)
    unfold extractE
    split <;> try exact sim_fail
    rename_i vs hq
    rw [hq] at ht
    generalize hq' : ρ' t = q at ht
    split <;> try exact sim_fail
    rename_i v hv
    cases ht with
    | tuple h1 h2 =>
      rename_i b
      obtain ⟨r, hr, hvr⟩ := AR.get ⟨h1, h2⟩ hv
      exact sim_run (d := .value r) (fun w => by simp only [execOp, hq', Instr.extract, hr]; rfl) hvr
  case convert s d x =>
    split
    · exact sim_valE (sim_convE (h x (by simp)))
    · split
      · exact sim_valE (sim_convE (h x (by simp)))
      · exact hpl
    · exact hpl
  case makeSlice t l c => exact sim_valE (sim_makeE (h l (by simp)) (h c (by simp)))
  case makeInterface t x =>
    have hx := h x (by simp)
    unfold ifaceE
    split <;> try exact sim_fail
    rename_i d hni hu
    refine sim_run (d := .value (.iface t (ρ' x))) (fun w => ?_) (.iface t hx)
    simp only [execOp, Instr.makeInterface, Sem.run_bind, Go.run_underlying hu, Result.andThen_ok]
    cases d <;> first | rfl | exact absurd rfl (hni _)
  case makeFunc fn a c =>
    have h1 := ar_map (σ := σ) (ρ := ρ) (ρ' := ρ') (a := a) fun x hx => h x (by simp [hx])
    have h2 := ar_map (σ := σ) (ρ := ρ) (ρ' := ρ') (a := c) fun x hx => h x (by simp [hx])
    exact sim_run (d := .value (.func fn (a.map ρ') (c.map ρ'))) (fun w => rfl) (.func fn h1.1 h1.2 h2.1 h2.2)
  case call c =>
    obtain ⟨callee, args, argTypes⟩ := c
    simp only [Call.operands] at h
    have hin : ∀ x ∈ args, VR σ (ρ x) (ρ' x) := fun x hx => h x (by simp [hx])
    split
    · rename_i hcal
      have hcal : callee = _ := hcal
      subst hcal
      split <;> try exact sim_fail
      rename_i t u s x ht hx
      obtain rfl : argTypes = #[t, u] := Array.ext' ht
      obtain rfl : args = #[s, x] := Array.ext' hx
      have e : execOp ρ' ⟨dst, .call ⟨.builtin .append, #[s, x], #[t, u]⟩, type, pos, after, guard⟩ = (do pure (.value (← Builtin.append_ #[t, u] type #[ρ' s, ρ' x]))) := by
        simp [execOp, resolve, invoke, builtin]
      rw [e]
      exact sim_valE (S := Builtin.append_ #[t, u] type #[ρ' s, ρ' x]) (sim_appendE (hin s (by simp)) (hin x (by simp)))
    · rename_i hcal
      have hcal : callee = _ := hcal
      subst hcal
      split <;> try exact sim_fail
      rename_i t u d s ht hx
      obtain rfl : argTypes = #[t, u] := Array.ext' ht
      obtain rfl : args = #[d, s] := Array.ext' hx
      have e : execOp ρ' ⟨dst, .call ⟨.builtin .copy, #[d, s], #[t, u]⟩, type, pos, after, guard⟩ = (do pure (.value (← Builtin.copy_ #[t, u] type #[ρ' d, ρ' s]))) := by
        simp [execOp, resolve, invoke, builtin]
      rw [e]
      exact sim_valE (S := Builtin.copy_ #[t, u] type #[ρ' d, ρ' s]) (sim_copyE (hin d (by simp)) (hin s (by simp)))
    · rename_i hcal
      have hcal : callee = _ := hcal
      subst hcal
      split <;> try exact sim_fail
      rename_i t x ht hx
      obtain rfl : argTypes = #[t] := Array.ext' ht
      obtain rfl : args = #[x] := Array.ext' hx
      split
      · have e : execOp ρ' ⟨dst, .call ⟨.builtin .len, #[x], #[t]⟩, type, pos, after, guard⟩ = (do pure (.value (← Builtin.len_ #[t] type #[ρ' x]))) := by
          simp [execOp, resolve, invoke, builtin]
        rw [e]
        exact sim_valE (S := Builtin.len_ #[t] type #[ρ' x]) (sim_lenE (hin x (by simp)))
      · exact hpl
    · rename_i f hf
      have hf : callee = _ := hf
      subst hf
      have hfn := h f (by simp)
      split
      · rename_i g first captured hg
        cases hc : callable P g with
        | false => exact hpl
        | true =>
          rw [hg] at hfn
          generalize hq : ρ' f = q at hfn
          cases hfn with
          | func _ h1 h2 h3 h4 =>
            rename_i b d
            have har := ((AR.append (σ := σ) ⟨h1, h2⟩ (ar_map (σ := σ) hin)).append ⟨h3, h4⟩)
            refine sim_run (d := .enter g (b ++ args.map ρ' ++ d)) (fun w => ?_) ⟨rfl, har⟩
            simp only [execOp, resolve, hq, Deferred.ofValue, invoke, callFunc]
            unfold callable at hc
            cases hfg : P.funcs[g]? with
            | none => simp [hfg] at hc
            | some fn =>
              simp only [hfg, Bool.and_eq_true, Bool.not_eq_true'] at hc
              have n1 : ¬ fn.name = "runtime.NumGoroutine" := by simpa using hc.1
              have n2 : ¬ fn.body = none := fun e => by rw [e] at hc; simp at hc
              simp [program, Sem.run, bind, Sem.bind, pure, hfg, n1, n2, Sem.run_bind']
      · exact hpl
    · exact hpl
  all_goals exact hpl
end
end Go.Proofs.YtofdiilfedjhkaaDoor.E
end

section
/- Operations in any order: what does not hang on another may come ahead of it. -/
set_option linter.unusedVariables false
set_option linter.unusedSimpArgs false
namespace Go.Proofs.YtofdiilfedjhkaaDoor.E

def Evt.name : Evt → Nat
  | .rd n _ | .wr n _ | .look n | .kill n => n
def clash : Evt → Evt → Bool
  | .rd n o, .wr m p | .wr n o, .rd m p | .wr n o, .wr m p => Nat.beq n m && Nat.beq o p
  | .kill n, e | e, .kill n => Nat.beq n e.name
  | _, _ => false

def evalT (l : List Value) : Operand → Value
  | .tmp t => getT l t
  | .const v => v
  | .global g => .pointer (some ⟨g, 0, none⟩)
  | .func f => .func (.func f) #[] #[]
def putT (l : List Value) (dst : Option Tmp) (v : Value) : List Value := match dst with
  | some d => l.set d v
  | none => l
/-! values worked out -/
def boolK {β : Type} (b : Bool) (k : Bool → β) : β := match b with
  | true => k true
  | false => k false
def intK {β : Type} (n : Int) (k : Int → β) : β := match n with
  | .ofNat m => natK m fun m => k (.ofNat m)
  | .negSucc m => natK m fun m => k (.negSucc m)
def bytesK {β : Type} : List UInt8 → (List UInt8 → β) → β
  | [], k => k []
  | b :: l, k => natK b.toNat fun m => bytesK l fun l => k (UInt8.ofNat m :: l)
def addrK {β : Type} (a : Option Addr) (k : Option Addr → β) : β := match a with
  | none => k none
  | some ⟨n, o, none⟩ => natK n fun n => natK o fun o => k (some ⟨n, o, none⟩)
  | some a => k (some a)
def elemsK {β : Type} (f : Value → (Value → β) → β) : List Value → (List Value → β) → β
  | [], k => k []
  | v :: l, k => f v fun v => elemsK f l fun l => k (v :: l)
def valK {β : Type} (deep : Bool) : Nat → Value → (Value → β) → β
  | 0, v, k => k v
  | d + 1, v, k => match v with
    | .bool b => boolK b fun b => k (.bool b)
    | .int t n => intK n fun n => k (.int t n)
    | .string s => match deep with
      | true => bytesK s.data.toList fun l => k (.string ⟨l.toArray⟩)
      | false => k (.string s)
    | .pointer a => addrK a fun a => k (.pointer a)
    | .slice a l c => addrK a fun a => natK l fun l => natK c fun c => k (.slice a l c)
    | .agg cs => elemsK (valK deep d) cs.toList fun l => k (.agg l.toArray)
    | .tuple cs => elemsK (valK deep d) cs.toList fun l => k (.tuple l.toArray)
    | v => k v
theorem boolK_eq {β : Type} (b : Bool) (k : Bool → β) : boolK b k = k b := by cases b <;> rfl
theorem intK_eq {β : Type} (n : Int) (k : Int → β) : intK n k = k n := by cases n <;> simp [intK, natK_eq]
theorem bytesK_eq {β : Type} : ∀ (l : List UInt8) (k : List UInt8 → β), bytesK l k = k l := by
  intro l
  induction l with
  | nil => intro k; rfl
  | cons b l ih => intro k; simp [bytesK, natK_eq, ih]
theorem addrK_eq {β : Type} (a : Option Addr) (k : Option Addr → β) : addrK a k = k a := by
  unfold addrK
  split
  · rfl
  · simp [natK_eq]
  · rfl
theorem elemsK_eq {β : Type} {f : Value → (Value → β) → β} (hf : ∀ v k, f v k = k v) : ∀ (l : List Value) (k : List Value → β), elemsK f l k = k l := by
  intro l
  induction l with
  | nil => intro k; rfl
  | cons b l ih => intro k; simp [elemsK, hf, ih]
theorem valK_eq {β : Type} (deep : Bool) : ∀ (d : Nat) (v : Value) (k : Value → β), valK deep d v k = k v := by
  intro d
  induction d with
  | zero => intros; rfl
  | succ d ih =>
    intro v k
    unfold valK
    split
    · rw [boolK_eq]
    · rw [intK_eq]
    · split
      · rw [bytesK_eq]
      · rfl
    · rw [addrK_eq]
    · rw [addrK_eq, natK_eq, natK_eq]
    · rw [elemsK_eq ih]
    · rw [elemsK_eq ih]
    · rfl
def heavy : Op → Bool
  | .binOp .. | .unOp .. | .convert .. | .slice .. | .index .. | .call { callee := .builtin _, .. } => true
  | _ => false
def heavyAt (ops : Array Oper) (i : Nat) : Bool := match ops[i]? with
  | some o => heavy o.op
  | none => false
def putE0 (l : List Value) (dst : Option Tmp) (v : Value) : Ev (List Value) := fun H s => match dst with
  | some d => setK l d v fun l' => some ⟨l', H, s, [], []⟩
  | none => some ⟨l, H, s, [], []⟩
def putE (st deep : Bool) (l : List Value) (dst : Option Tmp) (v : Value) : Ev (List Value) := fun H s => match st with
  | true => valK deep 6 v fun v => putE0 l dst v H s
  | false => putE0 l dst v H s
theorem putE_eq (st deep : Bool) (l : List Value) (dst : Option Tmp) (v : Value) : putE st deep l dst v = Ev.pure (putT l dst v) := by
  funext H s
  have h0 : putE0 l dst v H s = Ev.pure (putT l dst v) H s := by
    cases dst with
    | none => rfl
    | some d => simp only [putE0, setK_eq]; rfl
  cases st with
  | true => simp only [putE, valK_eq]; exact h0
  | false => exact h0

/-- What a temporary holds of which nothing is known. -/
def junk : Value := .chan (some 0)
def notJ : Value → Bool
  | .chan (some n) => Nat.blt 0 n
  | _ => true
def wantedE (ops : Array Oper) (o : Oper) (t : List Value) : Ev Bool := match o.guard with
  | none => .pure true
  | some (j, want) => match (ops[j]?).bind (·.dst) with
    | some d => match t[d]? with
      | some (.bool b) => ask.bind fun
        | .bit u => (need (b = u)).bind fun _ => .pure (u == want)
        | _ => .pure (b == want)
      | some (.chan (some k)) => match Nat.blt 0 k with
        | true => .pure false
        | false => .fail
      | _ => .pure false
    | none => .pure false
theorem framed_wantedE (ops : Array Oper) (o : Oper) (t : List Value) : Framed (wantedE ops o t) := by
  unfold wantedE
  split
  · exact framed_pure _
  · split
    · split
      · refine framed_bind framed_ask fun x => ?_
        split
        · exact framed_bind (framed_need _) fun _ => framed_pure _
        · exact framed_pure _
      · split <;> first | exact framed_pure _ | exact framed_fail
      · exact framed_pure _
    · exact framed_pure _

/-- Beyond this number a function's name stands for an operation with an operand that is not looked into. -/
def BIG : Nat := 1099511627776
def hookE (o : Oper) (ρ : Operand → Value) : Option (FuncId × Array Value) := match o.op with
  | .load t a => match ρ a with
    | .chan (some k) => some (BIG + 4 * t, #[.chan (some k)])
    | _ => none
  | .indexAddr t x i => match ρ x with
    | .chan (some k) => some (BIG + (4 * t + 1), #[.chan (some k), ρ i])
    | _ => none
  | .call c => match c.callee with
    | .builtin .len => match c.argTypes.toList, c.args.toList with
      | [t], [.tmp u] => match ρ (.tmp u) with
        | .chan (some k) => some (BIG + (4 * t + 2), #[.chan (some k), .int .i64 (Int.ofNat o.type)])
        | _ => none
      | _, _ => none
    | _ => none
  | .fieldAddr t x f => match ρ x with
    | .chan (some k) => some (BIG + (4 * t + 3), #[.chan (some k), .int .i64 (Int.ofNat f)])
    | _ => none
  | _ => none
def clearO (o : Oper) (ρ : Operand → Value) : Bool := o.op.operands.toList.all fun x => notJ (ρ x)

section
variable (P : Program) (callF : FuncId → Array Value → Ev Value)

def opC0 (o : Oper) (ρ : Operand → Value) : Ev Value := (opE P ρ o).bind fun
  | .val v => .pure v
  | .enter f args => match Nat.blt f BIG with
    | true => callF f args
    | false => .fail
def opC (st : Bool) (o : Oper) (ρ : Operand → Value) : Ev Value := match clearO o ρ with
  | false => .fail
  | true => match st with
    | true => (opQ P ρ o).bind fun
      | .val v => .pure v
      | .enter f args => match Nat.blt f BIG with
        | true => callF f args
        | false => .fail
    | false => match hookE o ρ with
      | some (f, a) => callF f a
      | none => opC0 P callF o ρ
theorem opC_cases (st : Bool) (o : Oper) (ρ : Operand → Value) : (clearO o ρ = false ∧ opC P callF st o ρ = Ev.fail) ∨ (clearO o ρ = true ∧ opC P callF st o ρ = opC0 P callF o ρ) ∨ ∃ f a, clearO o ρ = true ∧ hookE o ρ = some (f, a) ∧ opC P callF st o ρ = callF f a := by
  cases hc : clearO o ρ with
  | false => exact .inl ⟨rfl, by simp only [opC, hc]⟩
  | true =>
    cases st with
    | true => exact .inr (.inl ⟨rfl, by simp only [opC, hc, opQ_eq]; rfl⟩)
    | false =>
      cases hk : hookE o ρ with
      | none => exact .inr (.inl ⟨rfl, by simp only [opC, hc, hk]⟩)
      | some q => exact .inr (.inr ⟨q.1, q.2, rfl, rfl, by simp only [opC, hc, hk]⟩)
variable (st : Bool)
def stepVal (ops : Array Oper) (i : Nat) (t : List Value) : Ev Value := match ops[i]? with
  | none => .pure undef
  | some o => (wantedE ops o t).bind fun b => match b with
    | true => opC P callF st o (evalT t)
    | false => .pure undef
end
def dstOf (ops : Array Oper) (i : Nat) : Option Tmp := (ops[i]?).bind (·.dst)

section
variable {P : Program} {st : Bool} {callF : FuncId → Array Value → Ev Value} (hcall : ∀ f a, Framed (callF f a))
include hcall
theorem framed_opC (o : Oper) (ρ : Operand → Value) : Framed (opC P callF st o ρ) := by
  rcases opC_cases P callF st o ρ with ⟨_, h⟩ | ⟨_, h⟩ | ⟨f, a, _, _, h⟩ <;> rw [h]
  · exact framed_fail
  · refine framed_bind (framed_opE _ _ _) fun n => ?_
    split
    · exact framed_pure _
    · split
      · exact hcall _ _
      · exact framed_fail
  · exact hcall _ _
theorem framed_stepVal (ops : Array Oper) (i : Nat) (t : List Value) : Framed (stepVal P callF st ops i t) := by
  unfold stepVal
  split
  · exact framed_pure _
  · refine framed_bind (framed_wantedE _ _ _) fun b => ?_
    split
    · exact framed_opC hcall _ _
    · exact framed_pure _
end

/-! ### temporaries -/
theorem evalT_put {t : List Value} {dst : Option Tmp} {v : Value} {x : Operand} (h : ∀ d, dst = some d → x ≠ .tmp d) : evalT (putT t dst v) x = evalT t x := by
  cases dst with
  | none => rfl
  | some d =>
    cases x with
    | tmp u =>
      have hne : d ≠ u := fun e => h d rfl (e ▸ rfl)
      simp [evalT, getT_eq, putT, List.getD, List.getElem?_set_ne hne]
    | _ => rfl
theorem putT_comm (t : List Value) {x y : Option Tmp} (v u : Value) (h : ∀ d, x = some d → y ≠ some d) : putT (putT t x v) y u = putT (putT t y u) x v := by
  cases x with
  | none => rfl
  | some d => cases y with
    | none => rfl
    | some e =>
      have hne : d ≠ e := fun he => h d rfl (he ▸ rfl)
      simp only [putT]
      exact List.set_comm v u hne
theorem clearO_congr {ρ ρ' : Operand → Value} (o : Oper) (h : ∀ x ∈ o.op.operands, ρ x = ρ' x) : clearO o ρ = clearO o ρ' := by
  unfold clearO
  rw [Bool.eq_iff_iff, List.all_eq_true, List.all_eq_true]
  constructor <;> intro k x hx
  · rw [← h x (by simpa using hx)]; exact k x hx
  · rw [h x (by simpa using hx)]; exact k x hx
theorem hookE_congr {ρ ρ' : Operand → Value} (o : Oper) (h : ∀ x ∈ o.op.operands, ρ x = ρ' x) : hookE o ρ = hookE o ρ' := by
  obtain ⟨dst, op, type, pos, after, guard⟩ := o
  unfold hookE
  cases op <;> simp only [Op.operands] at h <;> simp only
  case load t a => rw [h a (by simp)]
  case indexAddr t x i => rw [h x (by simp), h i (by simp)]
  case fieldAddr t x f => rw [h x (by simp)]
  case call c =>
    have hin : ∀ x ∈ c.args.toList, ρ x = ρ' x := fun x hx => h x (by simp [Call.operands]; exact .inr (by simpa using hx))
    split <;> try rfl
    split <;> try rfl
    rename_i heq
    simp only [heq, List.mem_cons, List.not_mem_nil, or_false, forall_eq_or_imp, forall_eq] at hin
    simp only [hin]
theorem opC_congr {P : Program} {callF : FuncId → Array Value → Ev Value} {st : Bool} {ρ ρ' : Operand → Value} (o : Oper) (h : ∀ x ∈ o.op.operands, ρ x = ρ' x) : opC P callF st o ρ = opC P callF st o ρ' := by
  unfold opC opC0
  rw [clearO_congr o h, hookE_congr o h, opQ_eq, opQ_eq, opE_congr o h]
theorem stepVal_put {P : Program} {callF : FuncId → Array Value → Ev Value} {st : Bool} {ops : Array Oper} {j : Nat} {t : List Value} {dst : Option Tmp} {v : Value}
    (h : ∀ o, ops[j]? = some o → ∀ d, dst = some d → d ∉ o.looksAt ops) : stepVal P callF st ops j (putT t dst v) = stepVal P callF st ops j t := by
  unfold stepVal
  split
  · rfl
  · rename_i o ho
    have h := h o ho
    have hw : wantedE ops o (putT t dst v) = wantedE ops o t := by
      unfold wantedE
      split
      · rfl
      · rename_i g want hg
        split
        · rename_i d hd
          have : (putT t dst v)[d]? = t[d]? := by
            cases dst with
            | none => rfl
            | some d' =>
              have hne : d' ≠ d := fun e => h d' rfl (by subst e; simp [Oper.looksAt, hg, hd])
              simp [putT, List.getElem?_set_ne hne]
          rw [this]
        · rfl
    have ho : opC P callF st o (evalT (putT t dst v)) = opC P callF st o (evalT t) := by
      have hρ : ∀ x ∈ o.op.operands, evalT (putT t dst v) x = evalT t x := fun x hx => evalT_put fun d hd hxd => h d hd (by
        subst hxd
        exact List.mem_append_left _ (List.mem_filterMap.2 ⟨.tmp d, by simpa using hx, rfl⟩))
      exact opC_congr o hρ
    rw [hw, ho]


/-! ### one behind the other -/
structure Ent where
  i : Nat
  s : Sup
  s' : Sup
  log : List Evt
  need : List Prop
  v : Value

def Seq (P : Program) (callF : FuncId → Array Value → Ev Value) (st : Bool) (ops : Array Oper) : List Ent → List Value → Tr → List Value → Tr → Prop
  | [], t, H, t', H' => t' = t ∧ H' = H
  | e :: c, t, H, t', H' => ∃ H₁, stepVal P callF st ops e.i t H e.s = some ⟨e.v, H₁, e.s', e.log, e.need⟩ ∧ Seq P callF st ops c (putT t (dstOf ops e.i) e.v) H₁ t' H'

def Eqv (H K : Tr) : Prop := ∀ n, H.get n = K.get n
def Lacks (e : Ent) (H : Tr) : Prop := ∀ n, Fs e.s.name e.s'.name n → H.get n = none
def Dis (x y : Ent) : Prop := ∀ n, Fs x.s.name x.s'.name n → ¬ Fs y.s.name y.s'.name n
structure Ind (ops : Array Oper) (x y : Ent) : Prop where
  ap : ∀ o o', ops[x.i]? = some o → ops[y.i]? = some o' → o.apart ops o' = true
  cl : ∀ ev ∈ x.log, ∀ ev' ∈ y.log, clash ev ev' = false
  fx : ∀ ev ∈ y.log, ¬ Fs x.s.name x.s'.name ev.name
  fy : ∀ ev ∈ x.log, ¬ Fs y.s.name y.s'.name ev.name

section
variable {P : Program} {callF : FuncId → Array Value → Ev Value} {st : Bool} {ops : Array Oper}

theorem framed_like {α : Type} {e : Ev α} (hf : Framed e) {H K : Tr} {s : Sup} {r : Res α} (h : e H s = some r) (hl : ∀ n, Fs s.name r.sup.name n → H.get n = none) (hE : Eqv H K) :
    ∃ K', e K s = some { r with hp := K' } ∧ Eqv r.hp K' := by
  obtain ⟨hm, g⟩ := hf H s r h
  obtain ⟨c, k⟩ := g hl
  obtain ⟨K', e', c', lk⟩ := k K (fun ev _ => by
    cases ev with
    | rd n o => exact cell_of_get (hE n) o
    | wr n o => exact cell_of_get (hE n) o
    | look n => exact inf_of_get (hE n)
    | kill n => exact hE n) fun n hn => by rw [← hE n]; exact hl n hn
  refine ⟨K', e', fun n => get_ext (fun o => ?_) ?_⟩
  · by_cases hx : Wr r.log n o ∨ Fs s.name r.sup.name n
    · exact (lk.cell n o hx).symm
    · rw [not_or] at hx
      rw [c.cell n o hx.1 hx.2, c'.cell n o hx.1 hx.2, cell_of_get (hE n)]
  · by_cases hx : Kl r.log n ∨ Fs s.name r.sup.name n
    · exact (lk.inf n hx).symm
    · rw [not_or] at hx
      rw [c.inf n hx.1 hx.2, c'.inf n hx.1 hx.2, inf_of_get (hE n)]

theorem chg_of {α : Type} {e : Ev α} (hf : Framed e) {H : Tr} {s : Sup} {r : Res α} (h : e H s = some r) (hl : ∀ n, Fs s.name r.sup.name n → H.get n = none) : Chg H r.hp s.name r.sup.name r.log :=
  ((hf H s r h).2 hl).1

theorem seq_like (hcall : ∀ f a, Framed (callF f a)) : ∀ (c : List Ent) (t : List Value) (H K : Tr) (t' : List Value) (H' : Tr), Seq P callF st ops c t H t' H' → (∀ e ∈ c, Lacks e H) → c.Pairwise Dis → Eqv H K →
    ∃ K', Seq P callF st ops c t K t' K' ∧ Eqv H' K' := by
  intro c
  induction c with
  | nil => rintro t H K t' H' ⟨rfl, rfl⟩ _ _ hE; exact ⟨K, ⟨rfl, rfl⟩, hE⟩
  | cons e c ih =>
    rintro t H K t' H' ⟨H₁, h₁, h₂⟩ hl hd hE
    have hfr := framed_stepVal (P := P) (st := st) hcall ops e.i t
    obtain ⟨K₁, k₁, hE₁⟩ := framed_like hfr h₁ (hl e (by simp)) hE
    have hc := chg_of hfr h₁ (hl e (by simp))
    obtain ⟨K', k₂, hE'⟩ := ih _ _ K₁ _ _ h₂ (fun x hx n hn => hc.none n (fun q => (List.pairwise_cons.1 hd).1 x hx n q hn) (hl x (by simp [hx]) n hn)) (List.pairwise_cons.1 hd).2 hE₁
    exact ⟨K', ⟨K₁, k₁, k₂⟩, hE'⟩

theorem clash_wr {l m : List Evt} (h : ∀ ev ∈ l, ∀ ev' ∈ m, clash ev ev' = false) {n o : Nat} : ∀ ev ∈ m, (ev = .rd n o ∨ ev = .wr n o) → ¬ Wr l n o := by
  intro ev hev he hw
  rcases hw with hw | hw <;> rcases he with rfl | rfl
  · have := h _ hw _ hev; simp [clash] at this
  · have := h _ hw _ hev; simp [clash] at this
  · have := h _ hw _ hev; simp [clash, Evt.name] at this
  · have := h _ hw _ hev; simp [clash, Evt.name] at this
theorem clash_symm (a b : Evt) : clash a b = clash b a := by
  cases a <;> cases b <;> simp only [clash, Evt.name] <;> (try rw [Bool.eq_iff_iff]) <;> simp [Bool.and_eq_true, Nat.beq_eq_true_eq] <;> (try constructor) <;> (try (rintro ⟨rfl, rfl⟩; exact ⟨rfl, rfl⟩)) <;> (try (rintro rfl; rfl)) <;> (try exact eq_comm)

/-- What two that do not clash leave: the one's memory agrees with what was, in what the other looks at. -/
theorem ag_ind {H H₁ : Tr} {a b : Nat} {lx ly : List Evt} (hc : Chg H H₁ a b lx) (cl : ∀ ev ∈ lx, ∀ ev' ∈ ly, clash ev ev' = false) (fx : ∀ ev ∈ ly, ¬ Fs a b ev.name) : ∀ ev ∈ ly, Ag H₁ H ev := by
  intro ev hev
  have hf := fx ev hev
  cases ev with
  | rd n o => exact hc.cell n o (clash_wr cl _ hev (.inl rfl)) hf
  | wr n o => exact hc.cell n o (clash_wr cl _ hev (.inr rfl)) hf
  | look n => exact hc.inf n (fun hk => by have := cl _ hk _ hev; simp [clash, Evt.name] at this) hf
  | kill n =>
    refine get_ext (fun o => hc.cell n o (fun hw => ?_) hf) (hc.inf n (fun hk => by have := cl _ hk _ hev; simp [clash, Evt.name] at this) hf)
    rcases hw with hw | hw
    · have := cl _ hw _ hev; simp [clash, Evt.name] at this
    · have := cl _ hw _ hev; simp [clash, Evt.name] at this

theorem swap (hcall : ∀ f a, Framed (callF f a)) {x e : Ent} {t : List Value} {H H₁ H₂ : Tr} (hI : Ind ops x e) (hD : Dis x e) (hlx : Lacks x H) (hle : Lacks e H)
    (h₁ : stepVal P callF st ops x.i t H x.s = some ⟨x.v, H₁, x.s', x.log, x.need⟩)
    (h₂ : stepVal P callF st ops e.i (putT t (dstOf ops x.i) x.v) H₁ e.s = some ⟨e.v, H₂, e.s', e.log, e.need⟩) :
    ∃ K₁ K₂, stepVal P callF st ops e.i t H e.s = some ⟨e.v, K₁, e.s', e.log, e.need⟩ ∧ stepVal P callF st ops x.i (putT t (dstOf ops e.i) e.v) K₁ x.s = some ⟨x.v, K₂, x.s', x.log, x.need⟩ ∧ Eqv H₂ K₂ ∧
      putT (putT t (dstOf ops x.i) x.v) (dstOf ops e.i) e.v = putT (putT t (dstOf ops e.i) e.v) (dstOf ops x.i) x.v := by
  have looks : (∀ o, ops[e.i]? = some o → ∀ d, dstOf ops x.i = some d → d ∉ o.looksAt ops) ∧ (∀ o, ops[x.i]? = some o → ∀ d, dstOf ops e.i = some d → d ∉ o.looksAt ops) ∧ (∀ d, dstOf ops x.i = some d → dstOf ops e.i ≠ some d) := by
    unfold dstOf
    cases hx : ops[x.i]? with
    | none =>
      refine ⟨?_, ?_, ?_⟩
      · intro o _ d hd; cases hd
      · intro o ho; cases ho
      · intro d hd; cases hd
    | some ox =>
      cases he : ops[e.i]? with
      | none =>
        refine ⟨?_, ?_, ?_⟩
        · intro o ho; cases ho
        · intro o _ d hd; cases hd
        · intro d _ hd; cases hd
      | some oe =>
        obtain ⟨a1, a2, a3⟩ := Oper.apart_spec (hI.ap ox oe hx he)
        refine ⟨?_, ?_, ?_⟩
        · intro o ho d hd; cases ho; exact a1 d hd
        · intro o ho d hd; cases ho; exact a3 d hd
        · intro d hd; exact a2 d hd
  obtain ⟨l1, l2, l3⟩ := looks
  have fx := framed_stepVal (P := P) (st := st) hcall ops x.i t
  have fe := framed_stepVal (P := P) (st := st) hcall ops e.i t
  rw [stepVal_put l1] at h₂
  have cx := chg_of fx h₁ hlx
  have hle₁ : Lacks e H₁ := fun n hn => cx.none n (fun q => hD n q hn) (hle n hn)
  obtain ⟨_, g⟩ := fe _ _ _ h₂
  obtain ⟨ce, k⟩ := g hle₁
  obtain ⟨K₁, e1, ce', le⟩ := k H (ag_ind cx hI.cl hI.fx) hle
  simp only at e1 ce ce' le
  obtain ⟨_, g'⟩ := fx _ _ _ h₁
  obtain ⟨_, k'⟩ := g' hlx
  have hlx₁ : Lacks x K₁ := fun n hn => ce'.none n (fun q => hD n hn q) (hlx n hn)
  obtain ⟨K₂, e2, cx', lx⟩ := k' K₁ (fun ev hev => by
    have := ag_ind ce' (fun a ha b hb => by rw [clash_symm]; exact hI.cl b hb a ha) hI.fy ev hev
    cases ev with
    | rd n o => exact this.symm
    | wr n o => exact this.symm
    | look n => exact this.symm
    | kill n => exact this.symm) hlx₁
  simp only at e2 cx' lx
  have wx : ∀ n o, Wr e.log n o → ¬ Wr x.log n o := fun n o h1 h2 => by
    rcases h1 with h1 | h1 <;> rcases h2 with h2 | h2 <;> (have := hI.cl _ h2 _ h1; simp [clash, Evt.name] at this)
  have kx : ∀ n, Kl e.log n → ¬ Kl x.log n := fun n h1 h2 => by have := hI.cl _ h2 _ h1; simp [clash, Evt.name] at this
  have nmW : ∀ {l : List Evt} {n o : Nat}, Wr l n o → ∃ ev ∈ l, ev.name = n := fun h => by
    rcases h with h | h <;> exact ⟨_, h, rfl⟩
  refine ⟨K₁, K₂, e1, by rw [stepVal_put l2]; exact e2, fun n => get_ext (fun o => ?_) ?_, putT_comm _ _ _ l3⟩
  · by_cases he : Wr e.log n o ∨ Fs e.s.name e.s'.name n
    · have n1 : ¬ Wr x.log n o := by
        rcases he with he | he
        · exact wx n o he
        · intro hw; obtain ⟨ev, hev, rfl⟩ := nmW hw; exact hI.fy ev hev he
      have n2 : ¬ Fs x.s.name x.s'.name n := by
        rcases he with he | he
        · intro hf; obtain ⟨ev, hev, rfl⟩ := nmW he; exact hI.fx ev hev hf
        · exact fun hf => hD n hf he
      rw [cx'.cell n o n1 n2, le.cell n o he]
    · rw [not_or] at he
      by_cases hx : Wr x.log n o ∨ Fs x.s.name x.s'.name n
      · rw [ce.cell n o he.1 he.2, lx.cell n o hx]
      · rw [not_or] at hx
        rw [ce.cell n o he.1 he.2, cx.cell n o hx.1 hx.2, cx'.cell n o hx.1 hx.2, ce'.cell n o he.1 he.2]
  · by_cases he : Kl e.log n ∨ Fs e.s.name e.s'.name n
    · have n1 : ¬ Kl x.log n := by
        rcases he with he | he
        · exact kx n he
        · intro hw; exact hI.fy _ hw he
      have n2 : ¬ Fs x.s.name x.s'.name n := by
        rcases he with he | he
        · intro hf; exact hI.fx _ he hf
        · exact fun hf => hD n hf he
      rw [cx'.inf n n1 n2, le.inf n he]
    · rw [not_or] at he
      by_cases hx : Kl x.log n ∨ Fs x.s.name x.s'.name n
      · rw [ce.inf n he.1 he.2, lx.inf n hx]
      · rw [not_or] at hx
        rw [ce.inf n he.1 he.2, cx.inf n hx.1 hx.2, cx'.inf n hx.1 hx.2, ce'.inf n he.1 he.2]

theorem seq_front (hcall : ∀ f a, Framed (callF f a)) : ∀ (c₁ : List Ent) (e : Ent) (c₂ : List Ent) (t : List Value) (H : Tr) (t' : List Value) (H' : Tr), Seq P callF st ops (c₁ ++ e :: c₂) t H t' H' →
    (∀ x ∈ c₁ ++ e :: c₂, Lacks x H) → (c₁ ++ e :: c₂).Pairwise Dis → (∀ x ∈ c₁, Ind ops x e) → ∃ H'', Seq P callF st ops (e :: (c₁ ++ c₂)) t H t' H'' ∧ Eqv H' H'' := by
  intro c₁
  induction c₁ with
  | nil => intro e c₂ t H t' H' h _ _ _; exact ⟨H', h, fun _ => rfl⟩
  | cons x c₁ ih =>
    rintro e c₂ t H t' H' ⟨H₁, h₁, h₂⟩ hl hd hI
    have hd' := List.pairwise_cons.1 hd
    have hc := chg_of (framed_stepVal (P := P) (st := st) hcall ops x.i t) h₁ (hl x (by simp))
    have hl₁ : ∀ y ∈ c₁ ++ e :: c₂, Lacks y H₁ := fun y hy n hn => hc.none n (fun q => hd'.1 y hy n q hn) (hl y (by simp only [List.cons_append, List.mem_cons]; exact .inr hy) n hn)
    obtain ⟨H₃, ⟨H₂, g₁, g₂⟩, hE⟩ := ih e c₂ _ _ _ _ h₂ hl₁ hd'.2 fun y hy => hI y (by simp [hy])
    obtain ⟨K₁, K₂, k₁, k₂, hE₂, ht⟩ := swap hcall (hI x (by simp)) (hd'.1 e (by simp)) (hl x (by simp)) (hl e (by simp)) h₁ g₁
    rw [ht] at g₂
    have hsub : ∀ y ∈ c₁ ++ c₂, y ∈ c₁ ++ e :: c₂ := fun y hy => by simp at hy ⊢; rcases hy with hy | hy <;> simp [hy]
    have hce := chg_of (framed_stepVal (P := P) (st := st) hcall ops e.i _) g₁ (hl₁ e (by simp))
    have hpe : ∀ y ∈ c₁ ++ c₂, Dis e y ∧ Dis y e := by
      intro y hy
      have hp : (c₁ ++ e :: c₂).Pairwise Dis := hd'.2
      rw [List.pairwise_append] at hp
      obtain ⟨p1, p2, p3⟩ := hp
      simp at hy
      rcases hy with hy | hy
      · have := p3 y hy e (by simp)
        exact ⟨fun n a b => this n b a, this⟩
      · have := (List.pairwise_cons.1 p2).1 y hy
        exact ⟨this, fun n a b => this n b a⟩
    have hl₂ : ∀ y ∈ c₁ ++ c₂, Lacks y H₂ := fun y hy n hn => hce.none n (fun q => (hpe y hy).1 n q hn) (hl₁ y (hsub y hy) n hn)
    have hdp : (c₁ ++ c₂).Pairwise Dis := hd'.2.sublist (List.Sublist.append (List.Sublist.refl _) (List.sublist_cons_self _ _))
    obtain ⟨H₄, g₃, hE₃⟩ := seq_like hcall _ _ _ K₂ _ _ g₂ hl₂ hdp hE₂
    exact ⟨H₄, ⟨K₁, k₁, K₂, k₂, g₃⟩, fun n => (hE n).trans (hE₃ n)⟩
end
end Go.Proofs.YtofdiilfedjhkaaDoor.E
end

section
/- A region: its operations in their order, or in any. -/
set_option linter.unusedVariables false
set_option linter.unusedSimpArgs false
namespace Go.Proofs.YtofdiilfedjhkaaDoor.E

def runC (P : Program) (f : FuncId) (b : Array Value) (w : World) (K : Value → World → Prop) : Prop := Calls P f b w fun | .returned v, w' => K v w' | _, _ => False
def runO (P : Program) (ρ : Operand → Value) (o : Oper) (w : World) (K : Value → World → Prop) : Prop := ∃ nx w', (execOp ρ o).run P w = .ok nx w' ∧ match nx with
  | .value r => K r w'
  | .skip => K undef w'
  | .enter f b => runC P f b w' K
  | _ => False
theorem runC_mono {P : Program} {f : FuncId} {b : Array Value} {w : World} {K K' : Value → World → Prop} (h : ∀ y w', K y w' → K' y w') (hr : runC P f b w K) : runC P f b w K' :=
  Calls.mono hr fun e w' he => by cases e <;> first | exact h _ _ he | exact he
theorem runO_wp {P : Program} {o : Oper} {a : Act} {w : World} {next : Act → World → Prop} {Q : Exit → Act → World → Prop} (h : runO P a.eval o w fun v w' => next (a.put o.dst v) w') : o.wp P a w next Q := by
  obtain ⟨nx, w', hr, hk⟩ := h
  unfold Oper.wp
  rw [hr]
  cases nx <;> simp only at hk <;> first | exact hk | exact hk.elim | skip
  exact Calls.mono hk fun e w' he => by cases e <;> first | exact he | exact he.elim

def preds (o : Oper) : List Nat := o.after.toList.filterMap fun e => match Region.binds .any e with | true => some e.on | false => none
def maskOf (M : List Nat) (ps : List Nat) : Nat := ps.foldr (fun p s => s ||| (2 ^ p ||| M.getD p 0)) 0
def opOk (G : Nat) (o : Oper) : Bool := o.op.operands.toList.all fun
  | .const v => plain 6 v
  | .global g => Nat.blt g G
  | _ => true
def stepsOk (M : List Nat) : List Oper → Nat → Bool
  | [], _ => true
  | o :: l, i => (preds o).all (fun p => Nat.blt p i) && Nat.beq (M.getD i 0) (maskOf M (preds o)) && stepsOk M l (i + 1)
def pairOk (ops : Array Oper) (M : List Nat) (x : Oper) (i : Nat) : List Oper → Nat → Bool
  | [], _ => true
  | y :: l, j => ((M.getD j 0).testBit i || x.apart ops y) && pairOk ops M x i l (j + 1)
def pairsOk (ops : Array Oper) (M : List Nat) : List Oper → Nat → Bool
  | [], _ => true
  | x :: l, i => pairOk ops M x i l (i + 1) && pairsOk ops M l (i + 1)
/-- The operations ahead of each, as bits. -/
def masks : List Oper → Nat → List Nat → List Nat
  | [], _, acc => acc.reverse
  | o :: l, i, acc => natK ((preds o).foldr (fun p s => s ||| (2 ^ p ||| acc.getD (i - 1 - p) 0)) 0) fun m => masks l (i + 1) (m :: acc)

structure Rec where
  i : Nat
  lo : Nat
  hi : Nat
  log : List Evt
def Rec.quiet (r : Rec) : Bool := match r.log with
  | [] => Nat.beq r.lo r.hi
  | _ :: _ => false
def Rec.hits (x y : Rec) : Bool := y.log.any fun e => Nat.ble x.lo e.name && Nat.blt e.name x.hi
def Rec.free (x y : Rec) : Bool := !(x.log.any fun e => y.log.any (clash e)) && !x.hits y && !y.hits x
def freeOf (M : List Nat) (x : Rec) : List Rec → Bool
  | [] => true
  | y :: l => ((M.getD y.i 0).testBit x.i || x.free y) && freeOf M x l
def allFree (M : List Nat) : List Rec → Bool
  | [] => true
  | x :: l => match x.quiet with
    | true => allFree M l
    | false => freeOf M x (l.filter fun y => !y.quiet) && allFree M l

def logged {α : Type} (e : Ev α) : Ev (α × Nat × Nat × List Evt) := fun H s => match e H s with
  | none => none
  | some ⟨a, H', s', l, p⟩ => some ⟨(a, s.name, s'.name, l), H', s', l, p⟩
theorem framed_logged {α : Type} {e : Ev α} (h : Framed e) : Framed (logged e) := by
  intro H s r hr
  unfold logged at hr
  cases h₁ : e H s with
  | none => simp [h₁] at hr
  | some q =>
    obtain ⟨a, H', s', l, p⟩ := q
    simp only [h₁, Option.some.injEq] at hr
    subst hr
    obtain ⟨m, g⟩ := h _ _ _ h₁
    refine ⟨m, fun hf => ?_⟩
    obtain ⟨c, k⟩ := g hf
    refine ⟨c, fun K hK hKf => ?_⟩
    obtain ⟨K', e', c', lk⟩ := k K hK hKf
    exact ⟨K', by simp [logged, e'], c', lk⟩

section
variable (P : Program) (st : Bool) (callF : FuncId → Array Value → Ev Value)
def regL (ops : Array Oper) : List Nat → List Value → Ev (List Value)
  | [], t => .pure t
  | i :: l, t => (stepVal P callF st ops i t).bind fun v => (putE st (heavyAt ops i) t (dstOf ops i) v).bind fun t' => regL ops l t'
def regD (ops : Array Oper) : List Nat → List Value → Ev (List Value × List Rec)
  | [], t => .pure (t, [])
  | i :: l, t => (logged (stepVal P callF st ops i t)).bind fun q => (putE st (heavyAt ops i) t (dstOf ops i) q.1).bind fun t' => (regD ops l t').bind fun z => .pure (z.1, ⟨i, q.2.1, q.2.2.1, q.2.2.2⟩ :: z.2)
def regionE (G : Nat) (ops : Array Oper) (draw : Bool) (t : List Value) : Ev (List Value) := match ops.toList.all (opOk G) with
  | false => .fail
  | true => match draw with
    | false => regL P st callF ops (List.range ops.size) t
    | true => match stepsOk (masks ops.toList 0 []) ops.toList 0 && pairsOk ops (masks ops.toList 0 []) ops.toList 0 with
      | false => .fail
      | true => (regD P st callF ops (List.range ops.size) t).bind fun z => match allFree (masks ops.toList 0 []) z.2 with
        | true => .pure z.1
        | false => .fail
end

section
variable {P : Program} {st : Bool} {callF : FuncId → Array Value → Ev Value} {ops : Array Oper}
theorem framed_regL (hcall : ∀ f a, Framed (callF f a)) : ∀ (l : List Nat) (t : List Value), Framed (regL P st callF ops l t)
  | [], t => framed_pure _
  | i :: l, t => framed_bind (framed_stepVal hcall _ _ _) fun v => framed_bind (by rw [putE_eq]; exact framed_pure _) fun t' => framed_regL hcall l t'
theorem framed_regD (hcall : ∀ f a, Framed (callF f a)) : ∀ (l : List Nat) (t : List Value), Framed (regD P st callF ops l t)
  | [], t => framed_pure _
  | i :: l, t => framed_bind (framed_logged (framed_stepVal hcall _ _ _)) fun q => framed_bind (by rw [putE_eq]; exact framed_pure _) fun t' => framed_bind (framed_regD hcall l t') fun z => framed_pure _
theorem framed_regionE (hcall : ∀ f a, Framed (callF f a)) (G : Nat) (draw : Bool) (t : List Value) : Framed (regionE P st callF G ops draw t) := by
  unfold regionE
  split
  · exact framed_fail
  · split
    · exact framed_regL hcall _ _
    · split
      · exact framed_fail
      · refine framed_bind (framed_regD hcall _ _) fun z => ?_
        split
        · exact framed_pure _
        · exact framed_fail
end

/-! ### the steps, on both sides -/
def TJ (σ : Nm) (t l : List Value) : Prop := t.length = l.length ∧ ∀ (i : Nat) (v r : Value), t[i]? = some v → l[i]? = some r → notJ v = true → VR σ v r
def TR (σ : Nm) (t : List Value) (a : Act) : Prop := TJ σ t a.tmps.toList ∧ a.defers = []
theorem TJ.get {σ : Nm} {t l : List Value} (h : TJ σ t l) {i : Nat} {v : Value} (hv : t[i]? = some v) (hj : notJ v = true) : ∃ r, l[i]? = some r ∧ VR σ v r := by
  have hlt : i < l.length := by rw [← h.1]; exact (List.getElem?_eq_some_iff.1 hv).1
  exact ⟨l[i], List.getElem?_eq_getElem hlt, h.2 i v _ hv (List.getElem?_eq_getElem hlt) hj⟩
theorem TJ.sub {σ τ : Nm} {t l : List Value} (h : TJ σ t l) (hs : Sub σ τ) : TJ τ t l := ⟨h.1, fun i v r hv hr hj => (h.2 i v r hv hr hj).sub hs⟩
theorem LR.tj {σ : Nm} {t l : List Value} (h : LR σ t l) : TJ σ t l := ⟨h.1, fun i v r hv hr _ => h.2 i v r hv hr⟩
section
variable {P : Program} {Fr : Prot} {G : Nat} {σ : Nm} {callF : FuncId → Array Value → Ev Value} {ops : Array Oper}

theorem TR.sub {τ : Nm} {t : List Value} {a : Act} (h : TR σ t a) (hs : Sub σ τ) : TR τ t a := ⟨h.1.sub hs, h.2⟩
theorem TR.put {t : List Value} {a : Act} (h : TR σ t a) (dst : Option Tmp) {v r : Value} (hv : VR σ v r) : TR σ (putT t dst v) (a.put dst r) := by
  cases dst with
  | none => exact h
  | some d =>
    refine ⟨⟨by simpa [putT, Act.put] using h.1.1, fun i x y hx hy hj => ?_⟩, h.2⟩
    simp only [putT, Act.put, Array.toList_setIfInBounds] at hx hy
    rw [List.getElem?_set] at hx hy
    by_cases e : d = i
    · rw [if_pos e] at hx hy
      split at hx
      · split at hy
        · cases hx; cases hy; exact hv
        · cases hy
      · cases hx
    · rw [if_neg e] at hx hy; exact h.1.2 i x y hx hy hj
theorem evalT_rel (hg : ∀ g, g < G → ∃ c, σ g = some ⟨g, 0, c, .nilFunc⟩) {t : List Value} {a : Act} (h : TR σ t a) {o : Oper} (ho : opOk G o = true) (hcl : clearO o (evalT t) = true) : ∀ x ∈ o.op.operands, VR σ (evalT t x) (a.eval x) := by
  intro x hx
  have hjx : notJ (evalT t x) = true := List.all_eq_true.1 hcl x (by simpa using hx)
  have hox := List.all_eq_true.1 ho x (by simpa using hx)
  cases x with
  | tmp u =>
    simp only [evalT, getT_eq, Act.eval] at hjx ⊢
    rw [List.getD_eq_getElem?_getD] at hjx
    rw [List.getD_eq_getElem?_getD, Array.getD_eq_getD_getElem?, ← Array.getElem?_toList]
    cases hu : t[u]? with
    | none =>
      have : a.tmps.toList[u]? = none := by
        rw [List.getElem?_eq_none_iff] at hu ⊢
        rw [← h.1.1]; exact hu
      rw [this]
      exact .tuple rfl fun i v r hv _ => by simp at hv
    | some v =>
      rw [hu] at hjx
      obtain ⟨r, hr, hvr⟩ := h.1.get hu hjx
      rw [hr]; exact hvr
  | const v => exact plain_refl 6 v hox
  | global g =>
    obtain ⟨c, hc⟩ := hg g (by simpa [Nat.blt_eq] using hox)
    have := VR.ptr (o := 0) hc
    simpa [evalT, Act.eval] using this
  | func f => exact .func _ rfl (fun i v r hv _ => by simp at hv) rfl (fun i v r hv _ => by simp at hv)

theorem sim_ret {α β : Type} {A : Nm → α → β → Prop} {v : α} {r : β} (h : A σ v r) : Sim P Fr G σ (Ev.pure v) A (fun w K => K r w) := by
  intro H s q w hr hn hR hf hG
  simp only [Ev.pure, Option.some.injEq] at hr
  subst hr
  exact ⟨σ, .refl .., hR, .refl .., h⟩

/-- The operation that a number beyond BIG stands for. -/
def opX (k t : Nat) (b : Array Value) : Op := match k with
  | 0 => .load t (.const (b.getD 0 undef))
  | 1 => .indexAddr t (.const (b.getD 0 undef)) (.const (b.getD 1 undef))
  | 2 => .call { callee := .builtin .len, args := #[.tmp 0], argTypes := #[t] }
  | _ => .fieldAddr t (.const (b.getD 0 undef)) (match b.getD 1 undef with | .int _ n => n.toNat | _ => 0)
def typeX (k : Nat) (b : Array Value) : TypeId := match k with
  | 2 => match b.getD 1 undef with | .int _ n => n.toNat | _ => 0
  | _ => 0
def constV (b : Array Value) : Operand → Value
  | .const v => v
  | .tmp _ => b.getD 0 undef
  | _ => undef
def runX (P : Program) (f : FuncId) (b : Array Value) (w : World) (K : Value → World → Prop) : Prop := match Nat.ble BIG f with
  | true => runO P (constV b) ⟨none, opX ((f - BIG) % 4) ((f - BIG) / 4) b, typeX ((f - BIG) % 4) b, "", #[], none⟩ w K
  | false => runC P f b w K
theorem runX_of {P : Program} {f : FuncId} (hf : Nat.ble BIG f = false) (b : Array Value) : runX P f b = runC P f b := by
  funext w K
  simp only [runX, hf]
theorem runO_mono {P : Program} {ρ : Operand → Value} {o : Oper} {w : World} {K K' : Value → World → Prop} (h : ∀ y w', K y w' → K' y w') (hr : runO P ρ o w K) : runO P ρ o w K' := by
  obtain ⟨nx, w', e, hk⟩ := hr
  refine ⟨nx, w', e, ?_⟩
  cases nx <;> simp only at hk ⊢ <;> first | exact h _ _ hk | exact hk.elim | exact runC_mono h hk
theorem runX_mono {P : Program} {f : FuncId} {b : Array Value} {w : World} {K K' : Value → World → Prop} (h : ∀ y w', K y w' → K' y w') (hr : runX P f b w K) : runX P f b w K' := by
  unfold runX at hr ⊢
  split at hr
  · exact runO_mono h hr
  · exact runC_mono h hr
theorem runX_code {P : Program} (k t : Nat) (hk : k < 4) (b : Array Value) : runX P (BIG + (4 * t + k)) b = runO P (constV b) ⟨none, opX k t b, typeX k b, "", #[], none⟩ := by
  funext w K
  have h1 : Nat.ble BIG (BIG + (4 * t + k)) = true := by rw [Nat.ble_eq]; omega
  simp only [runX, h1]
  rw [show BIG + (4 * t + k) - BIG = 4 * t + k by omega, show (4 * t + k) % 4 = k by omega, show (4 * t + k) / 4 = t by omega]
def CallsOk (P : Program) (Fr : Prot) (G : Nat) (callF : FuncId → Array Value → Ev Value) : Prop :=
  (∀ f a, Framed (callF f a)) ∧ ∀ σ f a b, AR σ a b → Sim P Fr G σ (callF f a) VR (runX P f b)
theorem ar_one {σ : Nm} {a b : Value} (h : VR σ a b) : AR σ #[a] #[b] := ⟨rfl, fun i v r hv hr => by
  cases i with
  | zero => simp at hv hr; subst hv hr; exact h
  | succ i => simp at hv⟩
theorem ar_two {σ : Nm} {a b c d : Value} (h : VR σ a b) (h' : VR σ c d) : AR σ #[a, c] #[b, d] := ⟨rfl, fun i v r hv hr => by
  match i with
  | 0 => simp at hv hr; subst hv hr; exact h
  | 1 => simp at hv hr; subst hv hr; exact h'
  | i + 2 => simp at hv⟩
theorem sim_hook (hc : CallsOk P Fr G callF) {ρ ρ' : Operand → Value} {o : Oper} (h : ∀ x ∈ o.op.operands, VR σ (ρ x) (ρ' x)) {f : FuncId} {a : Array Value} (hk : hookE o ρ = some (f, a)) : Sim P Fr G σ (callF f a) VR (runO P ρ' o) := by
  obtain ⟨dst, op, type, pos, after, guard⟩ := o
  unfold hookE at hk
  cases op <;> simp only [Op.operands] at h <;> simp only at hk <;> try (cases hk; done)
  case load t x =>
    have hx := h x (by simp)
    split at hk
    · rename_i k hkk
      simp only [Option.some.injEq, Prod.mk.injEq] at hk
      obtain ⟨rfl, rfl⟩ := hk
      have := hc.2 σ (BIG + (4 * t + 0)) _ _ (ar_one (hkk ▸ hx))
      rw [runX_code 0 t (by omega)] at this
      exact this
    · cases hk
  case indexAddr t x i =>
    have hx := h x (by simp)
    have hi := h i (by simp)
    split at hk
    · rename_i k hkk
      simp only [Option.some.injEq, Prod.mk.injEq] at hk
      obtain ⟨rfl, rfl⟩ := hk
      have := hc.2 σ (BIG + (4 * t + 1)) _ _ (ar_two (hkk ▸ hx) hi)
      rw [runX_code 1 t (by omega)] at this
      exact this
    · cases hk
  case fieldAddr t x n =>
    have hx := h x (by simp)
    split at hk
    · rename_i k hkk
      simp only [Option.some.injEq, Prod.mk.injEq] at hk
      obtain ⟨rfl, rfl⟩ := hk
      have := hc.2 σ (BIG + (4 * t + 3)) _ _ (ar_two (hkk ▸ hx) (.int .i64 (Int.ofNat n)))
      rw [runX_code 3 t (by omega)] at this
      exact this
    · cases hk
  case call c =>
    obtain ⟨callee, args, argTypes⟩ := c
    simp only at hk
    split at hk <;> try (cases hk; done)
    split at hk <;> try (cases hk; done)
    rename_i t x ht hxx
    have hx := h (.tmp x) (by simp only [Call.operands]; rw [Array.mem_append]; exact .inr (by rw [← Array.mem_toList_iff, hxx]; simp))
    split at hk
    · rename_i k hkk
      simp only [Option.some.injEq, Prod.mk.injEq] at hk
      obtain ⟨rfl, rfl⟩ := hk
      obtain rfl : argTypes = #[t] := Array.ext' ht
      obtain rfl : args = #[.tmp x] := Array.ext' hxx
      have := hc.2 σ (BIG + (4 * t + 2)) _ _ (ar_two (hkk ▸ hx) (.int .i64 (Int.ofNat type)))
      rw [runX_code 2 t (by omega)] at this
      have e : runO P (constV #[ρ' (.tmp x), .int .i64 (Int.ofNat type)]) { dst := none, op := opX 2 t #[ρ' (.tmp x), .int .i64 (Int.ofNat type)], type := typeX 2 #[ρ' (.tmp x), .int .i64 (Int.ofNat type)], pos := "", after := #[], guard := none } = runO P ρ' { dst := dst, op := Op.call { callee := Callee.builtin Builtin.len, args := #[.tmp x], argTypes := #[t] }, type := type, pos := pos, after := after, guard := guard } := by
        funext w K
        have e2 : resolve (constV #[ρ' (.tmp x), .int .i64 (Int.ofNat type)]) { callee := Callee.builtin Builtin.len, args := #[.tmp 0], argTypes := #[t] } type = resolve ρ' { callee := Callee.builtin Builtin.len, args := #[.tmp x], argTypes := #[t] } type := by
          unfold resolve
          simp [constV]
        have e3 : typeX 2 #[ρ' (.tmp x), .int .i64 (Int.ofNat type)] = type := by simp [typeX]
        simp only [runO, execOp, opX]
        rw [e3, ← e2]
      rw [← e]
      exact this
    · cases hk

theorem sim_opC {st : Bool} (hc : CallsOk P Fr G callF) {ρ ρ' : Operand → Value} {o : Oper} (h : clearO o ρ = true → ∀ x ∈ o.op.operands, VR σ (ρ x) (ρ' x)) : Sim P Fr G σ (opC P callF st o ρ) VR (runO P ρ' o) := by
  rcases opC_cases P callF st o ρ with ⟨_, e⟩ | ⟨hcl, e⟩ | ⟨f, a, hcl, hk, e⟩ <;> rw [e]
  · exact sim_fail
  rotate_left
  · exact sim_hook hc (h hcl) hk
  have h := h hcl
  refine sim_bind' (run₁ := runS P (execOp ρ' o)) (run₂ := fun nx w K => match nx with | .value r => K r w | .skip => K undef w | .enter f b => runC P f b w K | _ => False) (framed_opE _ _ _).mono (fun n => ?_) (sim_opE h) (fun τ n nx hs hA => ?_) (fun _ _ _ h => runS_mono h) (fun nx w K K' hK hr => ?_) (fun w K hr => ?_)
  · split
    · exact (framed_pure _).mono
    · split
      · exact (hc.1 _ _).mono
      · exact framed_fail.mono
  · cases n with
    | val v =>
      cases nx <;> simp only [NRel] at hA
      · exact sim_ret hA
      · subst hA; exact sim_ret (.tuple rfl fun i v r hv _ => by simp at hv)
    | enter f args =>
      cases nx <;> simp only [NRel] at hA
      obtain ⟨rfl, har⟩ := hA
      have := hc.2 τ f _ _ har
      simp only
      cases hb : Nat.blt f BIG with
      | false => exact sim_fail
      | true => rw [runX_of (by
          cases hh : Nat.ble BIG f with
          | false => rfl
          | true => rw [Nat.ble_eq] at hh; rw [Nat.blt_eq] at hb; omega)] at this; exact this
  · cases nx <;> simp only at hr ⊢ <;> first | exact hK _ _ hr | exact hr.elim | exact runC_mono hK hr
  · obtain ⟨nx, w', e, hk⟩ := hr
    exact ⟨nx, w', e, hk⟩

theorem sim_wantedE {o : Oper} {t : List Value} {a : Act} (h : TR σ t a) : Sim P Fr G σ (wantedE ops o t) (fun _ b c => b = c) (fun w K => K (Region.wanted o (yielded ops a.tmps)) w) := by
  unfold wantedE Region.wanted
  split
  · rename_i hg
    simp only [hg]
    exact sim_ret rfl
  · rename_i j want hg
    simp only [hg, yielded]
    split
    · rename_i d hd
      simp only [hd, Option.bind_some]
      split
      · rename_i b hb
        obtain ⟨r, hr, hvr⟩ := h.1.get hb rfl
        rw [Array.getElem?_toList] at hr
        cases hvr
        refine sim_ask fun x => ?_
        rw [hr]
        split
        · rename_i u
          refine sim_need fun hn => ?_
          subst hn
          exact sim_ret (by simp)
        · exact sim_ret (by simp)
      · rename_i k hk
        split
        · rename_i hk0
          refine sim_ret ?_
          obtain ⟨r, hr, hvr⟩ := h.1.get hk hk0
          rw [Array.getElem?_toList] at hr
          rw [hr]
          cases hvr with
          | @opq n p h1 h2 => cases hx : p.v <;> rw [hx] at h2 <;> first | rfl | cases h2
        · exact sim_fail
      · rename_i hnb hnc
        refine sim_ret ?_
        cases hu : t[d]? with
        | none =>
          have : a.tmps[d]? = none := by
            rw [← Array.getElem?_toList, List.getElem?_eq_none_iff, ← h.1.1, ← List.getElem?_eq_none_iff]; exact hu
          rw [this]; rfl
        | some v =>
          have hj : notJ v = true := by
            cases v with
            | chan c => cases c with
              | none => rfl
              | some k => exact absurd hu (hnc k)
            | _ => rfl
          obtain ⟨r, hr, hvr⟩ := h.1.get hu hj
          rw [Array.getElem?_toList] at hr
          rw [hr]
          cases hvr with
          | @opq n p h1 h2 => exact absurd hu (hnc _)
          | _ => first | rfl | exact absurd hu (hnb _)
    · rename_i hd
      simp only [hd, Option.bind_none]
      exact sim_ret rfl

theorem sim_step {st : Bool} (hc : CallsOk P Fr G callF) {t : List Value} {a : Act} (h : TR σ t a) {i : Nat} (hok : ∀ o, ops[i]? = some o → opOk G o = true) (Q : Exit → Act → World → Prop) :
    Sim P Fr G σ (stepVal P callF st ops i t) VR (fun w K => wpOp P ops Q i (fun a' w' => ∃ r, a' = a.put (dstOf ops i) r ∧ K r w') a w) := by
  intro H s r w hr hn hR hf hG
  unfold stepVal at hr
  unfold wpOp dstOf
  cases ho : ops[i]? with
  | none =>
    simp only [ho, Ev.pure, Option.some.injEq] at hr
    subst hr
    exact ⟨undef, rfl, σ, .refl .., hR, .refl .., .tuple rfl fun i v r hv _ => by simp at hv⟩
  | some o =>
    simp only [ho] at hr
    simp only [Option.bind_some]
    obtain ⟨r₁, r₂, h₁, h₂, rfl⟩ := bind_eq hr
    have hm₁ := (framed_wantedE ops o t).mono _ _ _ h₁
    have hm₂ : r₁.sup.name ≤ r₂.sup.name := by
      cases hv : r₁.val with
      | true => rw [hv] at h₂; exact (framed_opC (P := P) (st := st) hc.1 o _).mono _ _ _ h₂
      | false => rw [hv] at h₂; exact (framed_pure _).mono _ _ _ h₂
    obtain ⟨τ, ha, hR₁, hO, hb⟩ := sim_wantedE (P := P) (Fr := Fr) (G := G) (ops := ops) (o := o) h H s r₁ w h₁ (all_app hn).1 hR (fun n hx => hf n ⟨hx.1, Nat.lt_of_lt_of_le hx.2 hm₂⟩) hG
    rw [← hb]
    cases hv : r₁.val with
    | true =>
      rw [hv] at h₂
      simp only at h₂
      rw [if_pos rfl]
      refine .inl (runO_wp ?_)
      have hrel := fun hcl => evalT_rel hR₁.glob (h.sub ha.keep) (hok o ho) hcl
      have := sim_opC (P := P) (Fr := Fr) (G := G) hc hrel r₁.hp r₁.sup r₂ w h₂ (all_app hn).2 hR₁ (fun n hx => ha.none (hf n ⟨Nat.le_trans hm₁ hx.1, hx.2⟩) (fun q => by have h1 := q.2; have h2 := hx.1; omega)) (Nat.le_trans hG hm₁)
      obtain ⟨nx, w', e, hk⟩ := this
      refine ⟨nx, w', e, ?_⟩
      have fin : ∀ y w'', (∃ υ, Aft τ υ r₁.sup.name r₂.sup.name ∧ Rel P Fr G υ r₂.hp w'' ∧ Out Fr w w'' ∧ VR υ r₂.val y) →
          ∃ r, a.put o.dst y = a.put o.dst r ∧ ∃ υ, Aft σ υ s.name r₂.sup.name ∧ Rel P Fr G υ r₂.hp w'' ∧ Out Fr w w'' ∧ VR υ r₂.val r := by
        rintro y w'' ⟨υ, a1, a2, a3, a4⟩
        exact ⟨y, rfl, υ, ha.trans a1 hm₁ hm₂, a2, a3, a4⟩
      cases nx <;> simp only at hk ⊢ <;> first | exact fin _ _ hk | exact hk.elim | exact runC_mono (fun y w'' hy => fin y w'' hy) hk
    | false =>
      rw [hv] at h₂
      simp only [Ev.pure, Option.some.injEq] at h₂
      subst h₂
      rw [if_neg (by simp)]
      exact ⟨undef, rfl, τ, ha, hR₁, hO, .tuple rfl fun i v r hv _ => by simp at hv⟩
end
end Go.Proofs.YtofdiilfedjhkaaDoor.E
end

section
/- A region that draws its order; code; calls. -/
set_option linter.unusedVariables false
set_option linter.unusedSimpArgs false
namespace Go.Proofs.YtofdiilfedjhkaaDoor.E
section
variable {P : Program} {st : Bool} {Fr : Prot} {G : Nat} {callF : FuncId → Array Value → Ev Value} {ops : Array Oper}

def Ent.toRec (e : Ent) : Rec := ⟨e.i, e.s.name, e.s'.name, e.log⟩

theorem regD_seq (hc : ∀ f a, Framed (callF f a)) : ∀ (l : List Nat) (t : List Value) (H : Tr) (s : Sup) (r : Res (List Value × List Rec)), regD P st callF ops l t H s = some r →
    ∃ c, Seq P callF st ops c t H r.val.1 r.hp ∧ c.map Ent.i = l ∧ c.map Ent.toRec = r.val.2 ∧ (All r.need → ∀ e ∈ c, All e.need) ∧
      (∀ e ∈ c, s.name ≤ e.s.name ∧ e.s.name ≤ e.s'.name ∧ e.s'.name ≤ r.sup.name) ∧ c.Pairwise (fun x y => x.s'.name ≤ y.s.name) := by
  intro l
  induction l with
  | nil =>
    intro t H s r h
    simp only [regD, Ev.pure, Option.some.injEq] at h
    subst h
    refine ⟨[], ⟨rfl, rfl⟩, rfl, rfl, ?_, ?_, .nil⟩
    · intro _ e he; cases he
    · intro e he; cases he
  | cons i l ih =>
    intro t H s r h
    unfold regD at h
    obtain ⟨r₁, r₂, h₁, h₂, rfl⟩ := bind_eq h
    obtain ⟨r₃, r₄, h₃, h₄, rfl⟩ := bind_eq h₂
    rw [putE_eq] at h₃
    simp only [Ev.pure, Option.some.injEq] at h₃
    subst h₃
    obtain ⟨r₅, r₆, h₅, h₆, rfl⟩ := bind_eq h₄
    simp only [Ev.pure, Option.some.injEq] at h₆
    subst h₆
    unfold logged at h₁
    cases g : stepVal P callF st ops i t H s with
    | none => simp [g] at h₁
    | some q =>
      obtain ⟨v, H₁, s₁, lg, p₁⟩ := q
      simp only [g, Option.some.injEq] at h₁
      subst h₁
      obtain ⟨c, k1, k2, k3, k4, k5, k6⟩ := ih _ _ _ _ h₅
      have hm : s.name ≤ s₁.name := (framed_stepVal (P := P) (st := st) hc ops i t).mono _ _ _ g
      have hm2 : s₁.name ≤ r₅.sup.name := (framed_regD (P := P) (ops := ops) hc l _).mono _ _ _ h₅
      refine ⟨⟨i, s, s₁, lg, p₁, v⟩ :: c, ⟨H₁, g, k1⟩, by simp [k2], by simp [k3, Ent.toRec], ?_, ?_, ?_⟩
      · intro hn e he
        have n1 := (all_app hn).1
        have n2 := (all_app (all_app (all_app hn).2).2).1
        rcases List.mem_cons.1 he with rfl | he
        · exact n1
        · exact k4 n2 e he
      · intro e he
        rcases List.mem_cons.1 he with rfl | he
        · exact ⟨Nat.le_refl _, hm, hm2⟩
        · obtain ⟨a, b, c⟩ := k5 e he
          exact ⟨Nat.le_trans hm a, b, c⟩
      · exact List.pairwise_cons.2 ⟨fun y hy => (k5 y hy).1, k6⟩

/-! ### bits -/
theorem maskOf_bit {M : List Nat} : ∀ {ps : List Nat} {x : Nat}, (maskOf M ps).testBit x = true → ∃ p ∈ ps, x = p ∨ (M.getD p 0).testBit x = true := by
  intro ps
  induction ps with
  | nil => intro x h; simp [maskOf] at h
  | cons p ps ih =>
    intro x h
    have e : maskOf M (p :: ps) = maskOf M ps ||| (2 ^ p ||| M.getD p 0) := rfl
    rw [e, Nat.testBit_or, Nat.testBit_or, Bool.or_eq_true, Bool.or_eq_true] at h
    rcases h with h | h | h
    · obtain ⟨q, hq, hx⟩ := ih h
      exact ⟨q, by simp [hq], hx⟩
    · rw [Nat.testBit_two_pow] at h
      have h : p = x := by simpa using h
      exact ⟨p, by simp, .inl h.symm⟩
    · exact ⟨p, by simp, .inr h⟩
theorem stepsOk_spec {M : List Nat} : ∀ (l : List Oper) (i : Nat), stepsOk M l i = true → ∀ (j : Nat) (o : Oper), l[j]? = some o → (∀ p ∈ preds o, p < i + j) ∧ M.getD (i + j) 0 = maskOf M (preds o) := by
  intro l
  induction l with
  | nil => intro i _ j o h; simp at h
  | cons o l ih =>
    intro i h j o' ho
    simp only [stepsOk, Bool.and_eq_true, List.all_eq_true] at h
    cases j with
    | zero =>
      simp at ho; subst ho
      exact ⟨fun p hp => by have := h.1.1 p hp; simpa [Nat.blt_eq] using this, Nat.eq_of_beq_eq_true h.1.2⟩
    | succ j =>
      have := ih (i + 1) h.2 j o' (by simpa using ho)
      rw [show i + (j + 1) = i + 1 + j from by omega]
      exact this
theorem pairOk_spec {M : List Nat} {x : Oper} {i : Nat} : ∀ (l : List Oper) (j : Nat), pairOk ops M x i l j = true → ∀ (k : Nat) (y : Oper), l[k]? = some y → (M.getD (j + k) 0).testBit i = true ∨ x.apart ops y = true := by
  intro l
  induction l with
  | nil => intro j _ k y h; simp at h
  | cons o l ih =>
    intro j h k y hy
    simp only [pairOk, Bool.and_eq_true, Bool.or_eq_true] at h
    cases k with
    | zero => simp at hy; subst hy; exact h.1
    | succ k =>
      have := ih (j + 1) h.2 k y (by simpa using hy)
      rw [show j + (k + 1) = j + 1 + k from by omega]
      exact this
theorem pairsOk_spec {M : List Nat} : ∀ (l : List Oper) (i : Nat), pairsOk ops M l i = true → ∀ (a b : Nat) (x y : Oper), a < b → l[a]? = some x → l[b]? = some y → (M.getD (i + b) 0).testBit (i + a) = true ∨ x.apart ops y = true := by
  intro l
  induction l with
  | nil => intro i _ a b x y _ h; simp at h
  | cons o l ih =>
    intro i h a b x y hab hx hy
    simp only [pairsOk, Bool.and_eq_true] at h
    cases b with
    | zero => omega
    | succ b =>
      cases a with
      | zero =>
        simp at hx; subst hx
        have := pairOk_spec (ops := ops) l (i + 1) h.1 b y (by simpa using hy)
        rw [show i + (b + 1) = i + 1 + b from by omega]
        exact this
      | succ a =>
        have := ih (i + 1) h.2 a b x y (by omega) (by simpa using hx) (by simpa using hy)
        rw [show i + (b + 1) = i + 1 + b from by omega, show i + (a + 1) = i + 1 + a from by omega]
        exact this
theorem quiet_spec {r : Rec} (h : r.quiet = true) : r.log = [] ∧ r.lo = r.hi := by
  unfold Rec.quiet at h
  split at h
  · rename_i hl; exact ⟨hl, Nat.eq_of_beq_eq_true h⟩
  · cases h
structure DFree (x y : Rec) : Prop where
  cl : ∀ ev ∈ x.log, ∀ ev' ∈ y.log, clash ev ev' = false
  fx : ∀ ev ∈ y.log, ¬ Fs x.lo x.hi ev.name
  fy : ∀ ev ∈ x.log, ¬ Fs y.lo y.hi ev.name
theorem free_spec {x y : Rec} (h : x.free y = true) : DFree x y := by
  simp only [Rec.free, Bool.and_eq_true, Bool.not_eq_true'] at h
  obtain ⟨⟨h1, h2⟩, h3⟩ := h
  refine ⟨fun ev he ev' he' => ?_, fun ev he hf => ?_, fun ev he hf => ?_⟩
  · cases hc : clash ev ev' with
    | false => rfl
    | true =>
      have : (x.log.any fun e => y.log.any (clash e)) = true := List.any_eq_true.2 ⟨ev, he, List.any_eq_true.2 ⟨ev', he', hc⟩⟩
      rw [this] at h1; cases h1
  · have : x.hits y = true := List.any_eq_true.2 ⟨ev, he, by simp only [Bool.and_eq_true, Nat.ble_eq, Nat.blt_eq]; exact hf⟩
    rw [this] at h2; cases h2
  · have : y.hits x = true := List.any_eq_true.2 ⟨ev, he, by simp only [Bool.and_eq_true, Nat.ble_eq, Nat.blt_eq]; exact hf⟩
    rw [this] at h3; cases h3
theorem free_quiet_left {x y : Rec} (h : x.quiet = true) : DFree x y := by
  obtain ⟨h1, h2⟩ := quiet_spec h
  refine ⟨?_, ?_, ?_⟩
  · intro ev he; rw [h1] at he; cases he
  · intro ev _ hf; have := hf.1; have := hf.2; omega
  · intro ev he; rw [h1] at he; cases he
theorem free_quiet_right {x y : Rec} (h : y.quiet = true) : DFree x y := by
  obtain ⟨h1, h2⟩ := quiet_spec h
  refine ⟨?_, ?_, ?_⟩
  · intro ev _ ev' he; rw [h1] at he; cases he
  · intro ev he; rw [h1] at he; cases he
  · intro ev _ hf; have := hf.1; have := hf.2; omega
theorem freeOf_spec {M : List Nat} {x : Rec} : ∀ {l : List Rec}, freeOf M x l = true → ∀ y ∈ l, (M.getD y.i 0).testBit x.i = true ∨ DFree x y := by
  intro l
  induction l with
  | nil => intro _ y h; cases h
  | cons z l ih =>
    intro h y hy
    simp only [freeOf, Bool.and_eq_true, Bool.or_eq_true] at h
    rcases List.mem_cons.1 hy with rfl | hy
    · exact h.1.imp id free_spec
    · exact ih h.2 y hy
theorem allFree_spec {M : List Nat} : ∀ {l : List Rec}, allFree M l = true → l.Pairwise fun x y => (M.getD y.i 0).testBit x.i = true ∨ DFree x y := by
  intro l
  induction l with
  | nil => intro _; exact .nil
  | cons x l ih =>
    intro h
    unfold allFree at h
    cases hq : x.quiet with
    | true => simp only [hq] at h; exact List.pairwise_cons.2 ⟨fun y _ => .inr (free_quiet_left hq), ih h⟩
    | false =>
      simp only [hq, Bool.and_eq_true] at h
      refine List.pairwise_cons.2 ⟨fun y hy => ?_, ih h.2⟩
      cases hy' : y.quiet with
      | true => exact .inr (free_quiet_right hy')
      | false => exact freeOf_spec h.1 y (List.mem_filter.2 ⟨hy, by simp [hy']⟩)

/-! ### any order -/
theorem ready_iff {listed : Array Bool} {i : Nat} : i ∈ Region.ready .any ops listed ↔ ∃ o, ops[i]? = some o ∧ listed.getD i true = false ∧ ∀ p ∈ preds o, listed.getD p false = true := by
  unfold Region.ready preds
  simp only [List.mem_filter, List.mem_range, Bool.and_eq_true, Bool.not_eq_true']
  constructor
  · rintro ⟨hi, hl, hr⟩
    have ho : ops[i]? = some ops[i] := by simp [hi]
    rw [ho] at hr
    simp only [Option.map_some, Option.getD_some] at hr
    refine ⟨ops[i], ho, hl, fun p hp => ?_⟩
    simp only [List.mem_filterMap] at hp
    obtain ⟨e, he, hx⟩ := hp
    cases hb : Region.binds .any e with
    | false => rw [hb] at hx; cases hx
    | true =>
      rw [hb] at hx
      cases hx
      have := Array.all_eq_true'.1 hr e (by simpa using he)
      simpa [hb] using this
  · rintro ⟨o, ho, hl, hp⟩
    have hi : i < ops.size := by
      rcases Nat.lt_or_ge i ops.size with h | h
      · exact h
      · simp [Array.getElem?_eq_none h] at ho
    refine ⟨hi, hl, ?_⟩
    rw [ho]
    simp only [Option.map_some, Option.getD_some]
    refine Array.all_eq_true'.2 fun e he => ?_
    cases hb : Region.binds .any e with
    | false => simp
    | true =>
      simp only [Bool.not_true, Bool.false_or]
      exact hp _ (List.mem_filterMap.2 ⟨e, by simpa using he, by simp [hb]⟩)

theorem any_sound (hc : CallsOk P Fr G callF) {M : List Nat} (hst : ∀ (i : Nat) (o : Oper), ops[i]? = some o → (∀ p ∈ preds o, p < i) ∧ M.getD i 0 = maskOf M (preds o)) (hok : ∀ (i : Nat) (o : Oper), ops[i]? = some o → opOk G o = true) {Q : Exit → Act → World → Prop} :
    ∀ (n : Nat) (c : List Ent), c.length = n → ∀ (t : List Value) (H : Tr) (t' : List Value) (H' : Tr) (σ : Nm) (a : Act) (w : World) (listed : Array Bool) (lo hi : Nat), Seq P callF st ops c t H t' H' → TR σ t a → Rel P Fr G σ H w →
      (∀ e ∈ c, Lacks e H ∧ (∀ n, Fs e.s.name e.s'.name n → σ n = none) ∧ G ≤ e.s.name ∧ lo ≤ e.s.name ∧ e.s'.name ≤ hi ∧ All e.need ∧ ∃ o, ops[e.i]? = some o) → c.Pairwise Dis →
      c.Pairwise (fun x y => (M.getD y.i 0).testBit x.i = true ∨ Ind ops x y) → c.Pairwise (fun x y => x.i < y.i) → listed.size = ops.size → (∀ (i : Nat) (o : Oper), ops[i]? = some o → (listed.getD i true = false ↔ ∃ e ∈ c, e.i = i)) →
      (∀ (i : Nat) (o : Oper), ops[i]? = some o → listed.getD i true = true → ∀ p ∈ preds o, listed.getD p false = true) →
      (∀ τ a' w' H'', Aft σ τ lo hi → Rel P Fr G τ H'' w' → Out Fr w w' → TR τ t' a' → Eqv H' H'' → Q .normal a' w') → wpAny P .any ops Q n listed a w := by
  intro n
  induction n with
  | zero =>
    intro c hcl t H t' H' σ a w listed lo hi hseq hT hR hents hdis hpi hlt hsz hlisted hclosed hK
    have : c = [] := List.eq_nil_of_length_eq_zero hcl
    subst this
    obtain ⟨rfl, rfl⟩ := hseq
    refine ⟨?_, hK σ a w _ (.refl ..) hR (.refl ..) hT (fun _ => rfl)⟩
    cases hr : Region.ready .any ops listed with
    | nil => rfl
    | cons i l =>
      obtain ⟨o, ho, hl, _⟩ := ready_iff.1 (hr ▸ List.mem_cons_self : i ∈ Region.ready .any ops listed)
      obtain ⟨e, he, _⟩ := (hlisted i o ho).1 hl
      cases he
  | succ n ih =>
    intro c hcl t H t' H' σ a w listed lo hi hseq hT hR hents hdis hpi hlt hsz hlisted hclosed hK
    have hgetD : ∀ p, p < ops.size → listed.getD p false = listed.getD p true := fun p hp => by simp [Array.getD, hsz, hp]
    refine ⟨fun hnil => ?_, fun i hi' => ?_⟩
    · -- the first one left is ready
      cases c with
      | nil => cases hcl
      | cons e c =>
        exfalso
        obtain ⟨_, _, _, _, _, _, o, ho⟩ := hents e (by simp)
        have : e.i ∈ Region.ready .any ops listed := by
          refine ready_iff.2 ⟨o, ho, (hlisted e.i o ho).2 ⟨e, by simp, rfl⟩, fun p hp => ?_⟩
          have hpl := (hst e.i o ho).1 p hp
          have hes : e.i < ops.size := by
            rcases Nat.lt_or_ge e.i ops.size with h | h
            · exact h
            · simp [Array.getElem?_eq_none h] at ho
          rw [hgetD p (by omega)]
          cases hq : listed.getD p true with
          | true => rfl
          | false =>
            have hpo : ops[p]? = some ops[p] := by simp [show p < ops.size from by omega]
            obtain ⟨x, hx, hxi⟩ := (hlisted p _ hpo).1 hq
            rcases List.mem_cons.1 hx with rfl | hx
            · omega
            · have := (List.pairwise_cons.1 hlt).1 x hx; omega
        rw [hnil] at this; cases this
    · obtain ⟨o, ho, hl, hps⟩ := ready_iff.1 hi'
      obtain ⟨e, he, rfl⟩ := (hlisted i o ho).1 hl
      obtain ⟨c₁, c₂, rfl⟩ := List.append_of_mem he
      -- what is ahead of it in the list does not bind it
      have reach : ∀ (k : Nat) (ok : Oper), ops[k]? = some ok → (∀ p ∈ preds ok, listed.getD p false = true) → ∀ x, (M.getD k 0).testBit x = true → listed.getD x false = true := by
        intro k
        induction k using Nat.strongRecOn with
        | _ k ihk =>
          intro ok hok' hp x hx
          rw [(hst k ok hok').2] at hx
          obtain ⟨p, hpm, rfl | hx⟩ := maskOf_bit hx
          · exact hp _ hpm
          · have hpk := (hst k ok hok').1 p hpm
            have hks : k < ops.size := by
              rcases Nat.lt_or_ge k ops.size with h | h
              · exact h
              · simp [Array.getElem?_eq_none h] at hok'
            have hpo : ops[p]? = some ops[p] := by simp [show p < ops.size from by omega]
            exact ihk p hpk _ hpo (fun q hq => hclosed p _ hpo (by rw [← hgetD p (by omega)]; exact hp p hpm) q hq) x hx
      have hInd : ∀ x ∈ c₁, Ind ops x e := by
        intro x hx
        rw [List.pairwise_append] at hpi
        rcases hpi.2.2 x hx e (by simp) with h | h
        · exfalso
          have h1 := reach e.i o ho hps x.i h
          obtain ⟨_, _, _, _, _, _, ox, hox⟩ := hents x (by simp [hx])
          have h2 := (hlisted x.i ox hox).2 ⟨x, by simp [hx], rfl⟩
          have hxs : x.i < ops.size := by
            rcases Nat.lt_or_ge x.i ops.size with h | h
            · exact h
            · simp [Array.getElem?_eq_none h] at hox
          rw [hgetD _ hxs, h2] at h1; cases h1
        · exact h
      obtain ⟨H'', ⟨H₁, g₁, g₂⟩, hE⟩ := seq_front hc.1 c₁ e c₂ t H t' H' hseq (fun x hx => (hents x hx).1) hdis hInd
      obtain ⟨hlk, hσe, hGe, hloe, hhie, hne, _⟩ := hents e (by simp)
      have hsub : ∀ y ∈ c₁ ++ c₂, y ∈ c₁ ++ e :: c₂ := fun y hy => by simp at hy ⊢; rcases hy with hy | hy <;> simp [hy]
      have hsl : List.Sublist (c₁ ++ c₂) (c₁ ++ e :: c₂) := List.Sublist.append (List.Sublist.refl _) (List.sublist_cons_self _ _)
      have hpe : ∀ y ∈ c₁ ++ c₂, Dis e y := by
        intro y hy
        have hp := hdis
        rw [List.pairwise_append] at hp
        obtain ⟨p1, p2, p3⟩ := hp
        simp at hy
        rcases hy with hy | hy
        · exact fun n a b => p3 y hy e (by simp) n b a
        · exact (List.pairwise_cons.1 p2).1 y hy
      have hne' : ∀ y ∈ c₁ ++ c₂, y.i ≠ e.i := by
        intro y hy
        have hp := hlt
        rw [List.pairwise_append] at hp
        obtain ⟨p1, p2, p3⟩ := hp
        simp at hy
        rcases hy with hy | hy
        · have := p3 y hy e (by simp); omega
        · have := (List.pairwise_cons.1 p2).1 y hy; omega
      have hce := chg_of (framed_stepVal (P := P) (st := st) hc.1 ops e.i t) g₁ hlk
      have hstep := sim_step (P := P) (Fr := Fr) (G := G) (ops := ops) hc hT (i := e.i) (hok e.i) Q H e.s _ w g₁ hne hR hσe hGe
      refine wpOp_mono (fun a' w' hk => ?_) hstep
      obtain ⟨r, rfl, τ, ha, hR₁, hO, hv⟩ := hk
      simp only at ha hR₁ hv
      refine ih (c₁ ++ c₂) (by simp at hcl ⊢; omega) _ _ t' H'' τ _ w' _ lo hi g₂ ((hT.sub ha.keep).put _ hv) hR₁ ?_ (hdis.sublist hsl) (hpi.sublist hsl) (hlt.sublist hsl) (by simpa using hsz) ?_ ?_ ?_
      · intro y hy
        obtain ⟨y1, y2, y3, y4, y5, y6, y7⟩ := hents y (hsub y hy)
        exact ⟨fun n hn => hce.none n (fun q => hpe y hy n q hn) (y1 n hn), fun n hn => ha.none (y2 n hn) (fun q => hpe y hy n q hn), y3, y4, y5, y6, y7⟩
      · intro k ok hok'
        have hks : k < ops.size := by
          rcases Nat.lt_or_ge k ops.size with h | h
          · exact h
          · simp [Array.getElem?_eq_none h] at hok'
        by_cases hke : k = e.i
        · subst hke
          constructor
          · intro h
            simp [Array.getD, hsz, hks] at h
          · rintro ⟨y, hy, hyi⟩; exact (hne' y hy hyi).elim
        · have hg : (listed.setIfInBounds e.i true).getD k true = listed.getD k true := by
            simp only [Array.getD_eq_getD_getElem?]
            rw [Array.getElem?_setIfInBounds_ne (Ne.symm hke)]
          rw [hg, hlisted k ok hok']
          constructor
          · rintro ⟨y, hy, rfl⟩
            refine ⟨y, ?_, rfl⟩
            simp at hy ⊢
            rcases hy with hy | rfl | hy
            · exact .inl hy
            · exact (hke rfl).elim
            · exact .inr hy
          · rintro ⟨y, hy, rfl⟩; exact ⟨y, hsub y hy, rfl⟩
      · intro k ok hok' hlk' p hp
        have hks : k < ops.size := by
          rcases Nat.lt_or_ge k ops.size with h | h
          · exact h
          · simp [Array.getElem?_eq_none h] at hok'
        have mono : ∀ p, listed.getD p false = true → (listed.setIfInBounds e.i true).getD p false = true := by
          intro p hp
          simp only [Array.getD_eq_getD_getElem?] at hp ⊢
          rw [Array.getElem?_setIfInBounds]
          split
          · split <;> simp
            rename_i h1 h2
            rw [← h1] at hp
            simp [Array.getElem?_eq_none (by omega : listed.size ≤ e.i)] at hp
          · exact hp
        refine mono p ?_
        by_cases hke : k = e.i
        · subst hke
          rw [ho] at hok'; cases hok'
          exact hps p hp
        · have hg : (listed.setIfInBounds e.i true).getD k true = listed.getD k true := by
            simp only [Array.getD_eq_getD_getElem?]
            rw [Array.getElem?_setIfInBounds_ne (Ne.symm hke)]
          rw [hg] at hlk'
          exact hclosed k ok hok' hlk' p hp
      · intro υ a' w'' H₃ h1 h2 h3 h4 h5
        refine hK υ a' w'' H₃ ⟨ha.keep.trans h1.keep, fun n p hn => ?_⟩ h2 (hO.trans h3) h4 (fun n => (hE n).trans (h5 n))
        rcases h1.dom n p hn with h | h
        · rcases ha.dom n p h with h | h
          · exact .inl h
          · exact .inr ⟨Nat.le_trans hloe h.1, Nat.lt_of_lt_of_le h.2 hhie⟩
        · exact .inr h
end
end Go.Proofs.YtofdiilfedjhkaaDoor.E
end

section
/- Code and calls: the machine reckons a call, and the model answers it. -/
set_option linter.unusedVariables false
set_option linter.unusedSimpArgs false
namespace Go.Proofs.YtofdiilfedjhkaaDoor.E
open Go.RowKit

inductive Ex where
  | normal
  | exit (id : Nat)
  | ret
def Ex.to : Ex → Exit
  | .normal => .normal
  | .exit id => .exit id
  | .ret => .ret

section
variable (P : Program) (st : Bool) (G : Nat) (callF : FuncId → Array Value → Ev Value)
def codeE : Nat → Code → List Value → Ev (Ex × List Value)
  | 0, _, _ => .fail
  | f + 1, c, t => match c with
    | .skip => .pure (.normal, t)
    | .label _ => .pure (.normal, t)
    | .region _ ops draw => (regionE P st callF G ops draw t).bind fun t' => .pure (.normal, t')
    | .seq a b => (codeE f a t).bind fun q => match q.1 with
      | .normal => codeE f b q.2
      | x => .pure (x, q.2)
    | .cond c a b => match evalT t c with
      | .bool v => ask.bind fun
        | .bit u => (need (v = u)).bind fun _ => match u with
          | true => codeE f a t
          | false => codeE f b t
        | _ => match v with
          | true => codeE f a t
          | false => codeE f b t
      | _ => .fail
    | .block id c => (codeE f c t).bind fun q => match q.1 with
      | .exit id' => match Nat.beq id' id with
        | true => .pure (.normal, q.2)
        | false => .pure (.exit id', q.2)
      | x => .pure (x, q.2)
    | .loop c => (codeE f c t).bind fun q => match q.1 with
      | .normal => codeE f (.loop c) q.2
      | x => .pure (x, q.2)
    | .exit id => .pure (.exit id, t)
    | .ret => .pure (.ret, t)
    | _ => .fail
def resL (t : List Value) : List ResultVar → Ev (List Value)
  | [] => .pure []
  | .tmp k :: l => match notJ (t.getD k undef) with
    | true => (resL t l).bind fun vs => .pure (t.getD k undef :: vs)
    | false => .fail
  | .cell a ty :: l => match t.getD a undef with
    | .pointer (some ⟨n, o, none⟩) => (loadE P ty n o).bind fun v => (resL t l).bind fun vs => .pure (v :: vs)
    | _ => .fail
def oneOf : List Value → Value
  | [v] => v
  | l => .tuple l.toArray
end

/-- A call that makes nothing of what is protected another, and answers one thing; its arguments may hold names from ahead. -/
def PureC (P : Program) (Fr : Prot) (f : FuncId) (args : Array Value) (v : Value) : Prop :=
  ∀ (σ : Nm) (args' : Array Value), Sub Fr.ext σ → AR σ args args' → ∀ w : World, (∀ b, Fr b → w.heap[b]? = some (Fr.obj b)) → runX P f args' w fun r w' => VR Fr.ext v r ∧ Below w.heap.size w w'
/-- The same of arguments without names. -/
def PureK (P : Program) (Fr : Prot) (f : FuncId) (args : Array Value) (v : Value) : Prop :=
  ∀ w : World, (∀ b, Fr b → w.heap[b]? = some (Fr.obj b)) → runC P f args w fun r w' => r = v ∧ Below w.heap.size w w'

/-- The same; a part of the answer is new, and is not looked into: by the name n. -/
def PureF (P : Program) (Fr : Prot) (f : FuncId) (args : Array Value) (n : Nat) (v : Value) : Prop :=
  ∀ (σ : Nm) (args' : Array Value), Sub Fr.ext σ → AR σ args args' → ∀ w : World, (∀ b, Fr b → w.heap[b]? = some (Fr.obj b)) → runX P f args' w fun r w' => (∃ q : Place, VR (fun m => if m = n then some q else Fr.ext m) v r) ∧ Below w.heap.size w w'
def callE (P : Program) (st : Bool) (Fr : Prot) (G : Nat) (cf : Nat) (K : FuncId → Array Value → Option Value) : Nat → FuncId → Array Value → Ev Value
  | 0, _, _ => .fail
  | n + 1, f, args => ask.bind fun
    | .val v => (need (PureC P Fr f args v)).bind fun _ => .pure v
    | .fresh v => bump.bind fun n => (need (PureF P Fr f args n v)).bind fun _ => .pure v
    | _ => match Nat.ble BIG f with
    | true => .fail
    | false => match K f args with
     | some v => match plain 6 v && args.toList.all (plain 6) with
      | true => .pure v
      | false => .fail
     | none => match P.funcs[f]? with
      | some fn => match fn.body with
        | some c => (codeE P st G (callE P st Fr G cf K n) cf c (args.toList ++ List.replicate (fn.ntmps - args.size) undef)).bind fun q => match q.1 with
          | .exit _ => .fail
          | _ => (resL P q.2 fn.results.toList).bind fun l => .pure (oneOf l)
        | none => .fail
      | none => .fail

section
variable {P : Program} {st : Bool} {Fr : Prot} {G : Nat} {callF : FuncId → Array Value → Ev Value}
theorem framed_codeE (hc : ∀ f a, Framed (callF f a)) : ∀ (n : Nat) (c : Code) (t : List Value), Framed (codeE P st G callF n c t) := by
  intro n
  induction n with
  | zero => intro c t; exact framed_fail
  | succ n ih =>
    intro c t
    unfold codeE
    split
    · exact framed_pure _
    · exact framed_pure _
    · exact framed_bind (framed_regionE hc _ _ _) fun _ => framed_pure _
    · refine framed_bind (ih _ _) fun q => ?_
      split
      · exact ih _ _
      · exact framed_pure _
    · split
      · refine framed_bind framed_ask fun x => ?_
        split
        · refine framed_bind (framed_need _) fun _ => ?_
          split <;> exact ih _ _
        · split <;> exact ih _ _
      · exact framed_fail
    · refine framed_bind (ih _ _) fun q => ?_
      split
      · split <;> exact framed_pure _
      · exact framed_pure _
    · refine framed_bind (ih _ _) fun q => ?_
      split
      · exact ih _ _
      · exact framed_pure _
    · exact framed_pure _
    · exact framed_pure _
    · exact framed_fail
theorem framed_resL (t : List Value) : ∀ l : List ResultVar, Framed (resL P t l)
  | [] => framed_pure _
  | .tmp k :: l => by
    unfold resL
    split
    · exact framed_bind (framed_resL t l) fun _ => framed_pure _
    · exact framed_fail
  | .cell a ty :: l => by
    unfold resL
    split
    · exact framed_bind (framed_loadE _ _ _ _) fun _ => framed_bind (framed_resL t l) fun _ => framed_pure _
    · exact framed_fail
theorem framed_callE (cf : Nat) (K : FuncId → Array Value → Option Value) : ∀ (n : Nat) (f : FuncId) (a : Array Value), Framed (callE P st Fr G cf K n f a) := by
  intro n
  induction n with
  | zero => intro f a; exact framed_fail
  | succ n ih =>
    intro f a
    unfold callE
    refine framed_bind framed_ask fun x => ?_
    split
    · exact framed_bind (framed_need _) fun _ => framed_pure _
    · exact framed_bind framed_bump fun _ => framed_bind (framed_need _) fun _ => framed_pure _
    split
    · exact framed_fail
    · split
      · split <;> first | exact framed_pure _ | exact framed_fail
      · split
        · split
          · refine framed_bind (framed_codeE ih _ _ _) fun q => ?_
            split
            · exact framed_fail
            · exact framed_bind (framed_resL _ _) fun _ => framed_pure _
          · exact framed_fail
        · exact framed_fail

/-! ### both sides -/
def codeRun (P : Program) (c : Code) (a : Act) (w : World) (K : Exit × Act → World → Prop) : Prop := ∀ Q : Exit → Act → World → Prop, (∀ x a' w', K (x, a') w' → Q x a' w') → c.wp P Q a w
def loopRun (P : Program) (c : Code) (a : Act) (w : World) (K : Exit × Act → World → Prop) : Prop := ∀ Q : Exit → Act → World → Prop, (∀ x a' w', K (x, a') w' → Q x a' w') →
  ∀ (b : Frame) (k : List Item) (cs : List Frame), ∃ e a' w', Q e a' w' ∧ Arrives P (lone (b.at a (.code c :: .inLoop c :: k)) cs w) b k cs e a' w'
def CA (σ : Nm) (x : Ex × List Value) (y : Exit × Act) : Prop := x.1.to = y.1 ∧ TR σ x.2 y.2
theorem codeRun_mono {c : Code} {a : Act} {w : World} {K K' : Exit × Act → World → Prop} (h : ∀ y w', K y w' → K' y w') (hr : codeRun P c a w K) : codeRun P c a w K' := fun Q hQ => hr Q fun x a' w' hk => hQ _ _ _ (h _ _ hk)
theorem loopRun_mono {c : Code} {a : Act} {w : World} {K K' : Exit × Act → World → Prop} (h : ∀ y w', K y w' → K' y w') (hr : loopRun P c a w K) : loopRun P c a w K' := fun Q hQ => hr Q fun x a' w' hk => hQ _ _ _ (h _ _ hk)
theorem loopRun_code {c : Code} {a : Act} {w : World} {K : Exit × Act → World → Prop} (h : loopRun P c a w K) : codeRun P (.loop c) a w K := by
  intro Q hQ b k cs
  obtain ⟨e, a', w', hq, harr⟩ := h Q hQ b k cs
  exact ⟨e, a', w', hq, .of_steps (.one step_loop) harr⟩
theorem loopRun_step {c : Code} {a : Act} {w : World} {K : Exit × Act → World → Prop}
    (h : codeRun P c a w fun y w' => match y.1 with | .normal => loopRun P c y.2 w' K | e => K (e, y.2) w') : loopRun P c a w K := by
  intro Q hQ b k cs
  have := h (Exit.then (fun a' w' => loopRun P c a' w' K) Q) (fun x a' w' hk => by
    cases x <;> simp only [Exit.then] <;> first | exact hk | exact hQ _ _ _ hk)
  obtain ⟨e, a₁, w₁, hq, harr⟩ := this b (.inLoop c :: k) cs
  cases e with
  | normal =>
    obtain ⟨e₂, a₂, w₂, hq₂, harr₂⟩ := hq Q hQ b k cs
    exact ⟨e₂, a₂, w₂, hq₂, .of_steps (Steps.trans harr (.one step_inLoop)) harr₂⟩
  | exit id => exact ⟨_, a₁, w₁, hq, .pass (x := .inLoop c) rfl (fun _ _ => .inl (by simp)) harr⟩
  | goto l => exact ⟨_, a₁, w₁, hq, .pass (x := .inLoop c) rfl (fun _ _ => .inl (by simp)) harr⟩
  | ret => exact ⟨_, a₁, w₁, hq, .pass (x := .inLoop c) rfl (fun _ _ => .inl (by simp)) harr⟩
  | panic ch => exact ⟨_, a₁, w₁, hq, .pass (x := .inLoop c) rfl (fun _ _ => .inl (by simp)) harr⟩
  | outgrown => exact ⟨_, a₁, w₁, hq, .pass (x := .inLoop c) rfl (fun _ _ => .inl (by simp)) harr⟩

variable {σ : Nm}
theorem TR.eval {t : List Value} {a : Act} (h : TR σ t a) {c : Operand} {v : Bool} (hv : evalT t c = .bool v) : a.eval c = .bool v := by
  cases c with
  | tmp u =>
    simp only [evalT, getT_eq, Act.eval] at hv ⊢
    rw [List.getD_eq_getElem?_getD] at hv
    rw [Array.getD_eq_getD_getElem?, ← Array.getElem?_toList]
    cases hu : t[u]? with
    | none => rw [hu] at hv; simp [undef] at hv
    | some x =>
      rw [hu] at hv
      simp only [Option.getD_some] at hv
      subst hv
      obtain ⟨r, hr, hvr⟩ := h.1.get hu rfl
      cases hvr
      rw [hr]; rfl
  | const x => exact hv
  | global g => simp [evalT] at hv
  | func f => simp [evalT] at hv

theorem rel_drawn {H : Tr} {w : World} (h : Rel P Fr G σ H w) : Rel P Fr G σ H { w with drawn := w.drawn + 1 } := ⟨h.glob, h.blk, h.apart, h.prot, h.ext⟩
theorem sim_regL (hc : CallsOk P Fr G callF) {ops : Array Oper} (hok : ∀ (i : Nat) (o : Oper), ops[i]? = some o → opOk G o = true) : ∀ (l : List Nat) (σ : Nm) (t : List Value) (a : Act), TR σ t a →
    Sim P Fr G σ (regL P st callF ops l t) TR (fun w K => ∀ Q : Exit → Act → World → Prop, (∀ a' w', K a' w' → Q .normal a' w') → wpOps P ops Q l a w) := by
  intro l
  induction l with
  | nil =>
    intro σ t a h H s r w hr hn hR hf hG Q hQ
    simp only [regL, Ev.pure, Option.some.injEq] at hr
    subst hr
    exact hQ _ _ ⟨σ, .refl .., hR, .refl .., h⟩
  | cons i l ih =>
    intro σ t a h H s r w hr hn hR hf hG Q hQ
    unfold regL at hr
    obtain ⟨r₁, r₂, h₁, h₂, rfl⟩ := bind_eq hr
    obtain ⟨r₃, r₄, h₃, h₄, rfl⟩ := bind_eq h₂
    rw [putE_eq] at h₃
    simp only [Ev.pure, Option.some.injEq] at h₃
    subst h₃
    have hm₁ := (framed_stepVal (P := P) (st := st) hc.1 ops i t).mono _ _ _ h₁
    have hm₂ := (framed_regL (P := P) (ops := ops) hc.1 l _).mono _ _ _ h₄
    rw [wpOps_cons]
    have := sim_step (P := P) (Fr := Fr) (G := G) (ops := ops) hc h (i := i) (hok i) Q H s r₁ w h₁ (all_app hn).1 hR (fun n hx => hf n ⟨hx.1, Nat.lt_of_lt_of_le hx.2 hm₂⟩) hG
    refine wpOp_mono (fun a' w' hk => ?_) this
    obtain ⟨r', rfl, τ, ha, hR₁, hO, hv⟩ := hk
    refine ih τ _ _ ((h.sub ha.keep).put _ hv) r₁.hp r₁.sup r₄ w' h₄ (all_app (all_app hn).2).2 hR₁ (fun n hx => ha.none (hf n ⟨Nat.le_trans hm₁ hx.1, hx.2⟩) (fun q => by have h1 := q.2; have h2 : r₁.sup.name ≤ n := hx.1; omega)) (Nat.le_trans hG hm₁) Q (fun a'' w'' hk => hQ _ _ ?_)
    obtain ⟨υ, b1, b2, b3, b4⟩ := hk
    exact ⟨υ, ha.trans b1 hm₁ hm₂, b2, hO.trans b3, b4⟩

theorem sim_regionE (hm : P.follows .mixedOrders = true) (hc : CallsOk P Fr G callF) {id : Nat} {ops : Array Oper} {draw : Bool} {t : List Value} {a : Act} (h : TR σ t a) :
    Sim P Fr G σ (regionE P st callF G ops draw t) TR (fun w K => ∀ Q : Exit → Act → World → Prop, (∀ a' w', K a' w' → Q .normal a' w') → (Code.region id ops draw).wp P Q a w) := by
  unfold regionE
  cases hall : ops.toList.all (opOk G) with
  | false => exact sim_fail
  | true =>
    have hok : ∀ (i : Nat) (o : Oper), ops[i]? = some o → opOk G o = true := fun i o ho => List.all_eq_true.1 hall o (Array.mem_toList_iff.2 (Array.mem_of_getElem? ho))
    cases draw with
    | false =>
      intro H s r w hr hn hR hf hG Q hQ
      exact wp_region (sim_regL hc hok _ σ t a h H s r w hr hn hR hf hG Q hQ)
    | true =>
      simp only
      generalize masks ops.toList 0 [] = M
      cases hst : (stepsOk M ops.toList 0 && pairsOk ops M ops.toList 0) with
      | false => exact sim_fail
      | true =>
        simp only [Bool.and_eq_true] at hst
        intro H s r w hr hn hR hf hG Q hQ
        obtain ⟨r₁, r₂, h₁, h₂, rfl⟩ := bind_eq hr
        cases hfree : allFree M r₁.val.2 with
        | false => simp only [hfree, Ev.fail] at h₂; cases h₂
        | true =>
          simp only [hfree, Ev.pure, Option.some.injEq] at h₂
          subst h₂
          obtain ⟨c, k1, k2, k3, k4, k5, k6⟩ := regD_seq hc.1 _ _ _ _ _ h₁
          have hops : ∀ e ∈ c, e.i < ops.size := fun e he => by
            have : e.i ∈ c.map Ent.i := List.mem_map.2 ⟨e, he, rfl⟩
            rw [k2] at this; simpa using this
          have hi : c.Pairwise (fun x y => x.i < y.i) := by
            have : (c.map Ent.i).Pairwise (· < ·) := by rw [k2]; exact List.pairwise_lt_range
            exact List.pairwise_map.1 this
          have hpair := allFree_spec hfree
          rw [← k3] at hpair
          have hpair := List.pairwise_map.1 hpair
          have hpi : c.Pairwise (fun x y => (M.getD y.i 0).testBit x.i = true ∨ Ind ops x y) := by
            have hboth := hpair.and hi
            refine hboth.imp ?_
            rintro x y ⟨hd, hlt⟩
            rcases hd with hd | hd
            · exact .inl hd
            · by_cases hb : (M.getD y.i 0).testBit x.i = true
              · exact .inl hb
              · refine .inr ⟨fun o o' ho ho' => ?_, hd.cl, hd.fx, hd.fy⟩
                have := pairsOk_spec (ops := ops) ops.toList 0 hst.2 x.i y.i o o' hlt (by simpa using ho) (by simpa using ho')
                simp only [Nat.zero_add] at this
                exact this.resolve_left hb
          have hlen : c.length = ops.size := by
            have := congrArg List.length k2
            simpa using this
          refine wp_region_any hm ?_
          rw [← hlen]
          refine any_sound (P := P) (Fr := Fr) (G := G) hc (M := M) (fun i o ho => ?_) hok c.length c rfl t H r₁.val.1 r₁.hp σ a _ _ s.name r₁.sup.name k1 h (rel_drawn hR) ?_ ?_ hpi hi (by simp [hlen]) ?_ ?_ ?_
          · have := stepsOk_spec ops.toList 0 hst.1 i o (by simpa using ho)
            simpa using this
          · intro e he
            obtain ⟨a1, a2, a3⟩ := k5 e he
            have hlt := hops e he
            refine ⟨?_, fun n hx => hf n ⟨Nat.le_trans a1 hx.1, Nat.lt_of_lt_of_le hx.2 a3⟩, Nat.le_trans hG a1, a1, a3, k4 (all_app hn).1 e he, ops[e.i], by simp [hlt]⟩
            intro n hx
            cases hg : H.get n with
            | none => rfl
            | some B =>
              obtain ⟨p, _, _, hp, _⟩ := hR.blk n B hg
              rw [hf n ⟨Nat.le_trans a1 hx.1, Nat.lt_of_lt_of_le hx.2 a3⟩] at hp; cases hp
          · refine k6.imp ?_
            intro x y hxy n h1 h2
            have := h1.2; have := h2.1; omega
          · intro i o ho
            have his : i < ops.size := by
              rcases Nat.lt_or_ge i ops.size with h | h
              · exact h
              · simp [Array.getElem?_eq_none h] at ho
            constructor
            · intro _
              have : i ∈ c.map Ent.i := by rw [k2]; simpa using his
              obtain ⟨e, he, rfl⟩ := List.mem_map.1 this
              exact ⟨e, he, rfl⟩
            · intro _
              simp [Array.getD, hlen, his]
          · intro i o ho hx
            have his : i < ops.size := by
              rcases Nat.lt_or_ge i ops.size with h | h
              · exact h
              · simp [Array.getElem?_eq_none h] at ho
            simp [Array.getD, hlen, his] at hx
          · intro τ a' w' H'' b1 b2 b3 b4 b5
            refine hQ a' w' ⟨τ, b1, ?_, ⟨b3.os, b3.tape, b3.output, b3.size, b3.block⟩, b4⟩
            exact ⟨b2.glob, fun n B hB => b2.blk n B (by rw [← b5 n]; exact hB), fun n m B C p q hB hC => b2.apart n m B C p q (by rw [← b5 n]; exact hB) (by rw [← b5 m]; exact hC), b2.prot, b2.ext⟩
end
end Go.Proofs.YtofdiilfedjhkaaDoor.E
end
