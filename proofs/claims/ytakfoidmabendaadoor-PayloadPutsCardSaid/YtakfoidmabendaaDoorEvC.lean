/- The machine's memory and the model's: which value stands for which, which block for which. -/
import Derived.Test.YtakfoidmabendaaDoorEvB
import Derived.Laws.Sem
set_option linter.unusedVariables false
set_option linter.unusedSimpArgs false
namespace Go.Proofs.YtakfoidmabendaaDoor.E

structure Place where
  b : Nat
  base : Nat
  cap : Nat
abbrev Nm := Nat → Option Place
/-- A capacity from here on is not known: it is told where the slice begins in its row. -/
def softCap : Nat := 2 ^ 70

inductive VR (σ : Nm) : Value → Value → Prop
  | bool (b : Bool) : VR σ (.bool b) (.bool b)
  | int (k : IntKind) (n : Int) : VR σ (.int k n) (.int k n)
  | float (k : FloatKind) (n : Nat) : VR σ (.float k n) (.float k n)
  | complex (k : FloatKind) (n m : Nat) : VR σ (.complex k n m) (.complex k n m)
  | string (s : ByteArray) : VR σ (.string s) (.string s)
  | nilp : VR σ (.pointer none) (.pointer none)
  | ptr {n o : Nat} {p : Place} : σ n = some p → VR σ (.pointer (some ⟨n, o, none⟩)) (.pointer (some ⟨p.b, p.base + o, none⟩))
  | nils (l c : Nat) : VR σ (.slice none l c) (.slice none l c)
  | slc {n o l c : Nat} {p : Place} : σ n = some p → c < softCap → VR σ (.slice (some ⟨n, o, none⟩) l c) (.slice (some ⟨p.b, p.base + o, none⟩) l c)
  | soft {n o l i c : Nat} {p : Place} : σ n = some p → c + i = p.cap → l ≤ c → VR σ (.slice (some ⟨n, o, none⟩) l (softCap + i)) (.slice (some ⟨p.b, p.base + o, none⟩) l c)
  | nilFunc : VR σ .nilFunc .nilFunc
  | nilIface : VR σ .nilIface .nilIface
  | nilMap : VR σ (.map none) (.map none)
  | nilChan : VR σ (.chan none) (.chan none)
  | iface (t : TypeId) {v r : Value} : VR σ v r → VR σ (.iface t v) (.iface t r)
  | func (f : Fn) {a b c d : Array Value} : a.size = b.size → (∀ (i : Nat) (v r : Value), a[i]? = some v → b[i]? = some r → VR σ v r) → c.size = d.size → (∀ (i : Nat) (v r : Value), c[i]? = some v → d[i]? = some r → VR σ v r) → VR σ (.func f a c) (.func f b d)
  | agg {a b : Array Value} : a.size = b.size → (∀ (i : Nat) (v r : Value), a[i]? = some v → b[i]? = some r → VR σ v r) → VR σ (.agg a) (.agg b)
  | tuple {a b : Array Value} : a.size = b.size → (∀ (i : Nat) (v r : Value), a[i]? = some v → b[i]? = some r → VR σ v r) → VR σ (.tuple a) (.tuple b)

def AR (σ : Nm) (a b : Array Value) : Prop := a.size = b.size ∧ ∀ (i : Nat) (v r : Value), a[i]? = some v → b[i]? = some r → VR σ v r
def LR (σ : Nm) (a b : List Value) : Prop := a.length = b.length ∧ ∀ (i : Nat) (v r : Value), a[i]? = some v → b[i]? = some r → VR σ v r

def Sub (σ τ : Nm) : Prop := ∀ n p, σ n = some p → τ n = some p
theorem Sub.refl (σ : Nm) : Sub σ σ := fun _ _ h => h
theorem Sub.trans {a b c : Nm} (h : Sub a b) (k : Sub b c) : Sub a c := fun n p x => k n p (h n p x)

theorem VR.sub {σ τ : Nm} (hs : Sub σ τ) {v r : Value} (h : VR σ v r) : VR τ v r := by
  induction h with
  | bool b => exact .bool b
  | int k n => exact .int k n
  | float k n => exact .float k n
  | complex k n m => exact .complex k n m
  | string s => exact .string s
  | nilp => exact .nilp
  | ptr h => exact .ptr (hs _ _ h)
  | nils l c => exact .nils l c
  | slc h hc => exact .slc (hs _ _ h) hc
  | soft h hc hl => exact .soft (hs _ _ h) hc hl
  | nilFunc => exact .nilFunc
  | nilIface => exact .nilIface
  | nilMap => exact .nilMap
  | nilChan => exact .nilChan
  | iface t _ ih => exact .iface t ih
  | func f h1 _ h3 _ i1 i2 => exact .func f h1 i1 h3 i2
  | agg h1 _ ih => exact .agg h1 ih
  | tuple h1 _ ih => exact .tuple h1 ih
theorem AR.sub {σ τ : Nm} (hs : Sub σ τ) {a b : Array Value} (h : AR σ a b) : AR τ a b := ⟨h.1, fun i v r x y => (h.2 i v r x y).sub hs⟩
theorem LR.sub {σ τ : Nm} (hs : Sub σ τ) {a b : List Value} (h : LR σ a b) : LR τ a b := ⟨h.1, fun i v r x y => (h.2 i v r x y).sub hs⟩
theorem LR.nil (σ : Nm) : LR σ [] [] := ⟨rfl, fun i v r h => by simp at h⟩
theorem LR.cons {σ : Nm} {v r : Value} {a b : List Value} (hv : VR σ v r) (h : LR σ a b) : LR σ (v :: a) (r :: b) := by
  refine ⟨by simp [h.1], fun i x y hx hy => ?_⟩
  cases i with
  | zero => simp at hx hy; subst hx hy; exact hv
  | succ i => simp at hx hy; exact h.2 i x y hx hy
theorem LR.array {σ : Nm} {a b : List Value} (h : LR σ a b) : AR σ a.toArray b.toArray := ⟨by simp [h.1], fun i v r x y => h.2 i v r (by simpa using x) (by simpa using y)⟩
theorem AR.list {σ : Nm} {a b : Array Value} (h : AR σ a b) : LR σ a.toList b.toList := ⟨by simp [h.1], fun i v r x y => h.2 i v r (by simpa using x) (by simpa using y)⟩
theorem LR.get {σ : Nm} {a b : List Value} (h : LR σ a b) {i : Nat} {v : Value} (hv : a[i]? = some v) : ∃ r, b[i]? = some r ∧ VR σ v r := by
  have hl : i < b.length := by
    rw [← h.1]
    rcases Nat.lt_or_ge i a.length with x | x
    · exact x
    · simp [List.getElem?_eq_none x] at hv
  exact ⟨b[i], by simp [hl], h.2 i v _ hv (by simp [hl])⟩
theorem AR.get {σ : Nm} {a b : Array Value} (h : AR σ a b) {i : Nat} {v : Value} (hv : a[i]? = some v) : ∃ r, b[i]? = some r ∧ VR σ v r := by
  obtain ⟨r, hr, x⟩ := h.list.get (i := i) (v := v) (by simpa using hv)
  exact ⟨r, by simpa using hr, x⟩

/-- Values without addresses. -/
def plain : Nat → Value → Bool
  | 0, _ => false
  | f + 1, v => match v with
    | .bool _ | .int _ _ | .float _ _ | .complex _ _ _ | .string _ | .nilFunc | .nilIface => true
    | .pointer none | .slice none _ _ | .map none | .chan none => true
    | .agg cs | .tuple cs => cs.toList.all (plain f)
    | .iface _ v => plain f v
    | .func _ a c => a.toList.all (plain f) && c.toList.all (plain f)
    | _ => false

theorem ar_eq {σ : Nm} {a b : Array Value} {f : Nat} (hs : a.size = b.size) (h : ∀ (i : Nat) (v r : Value), a[i]? = some v → b[i]? = some r → VR σ v r)
    (hp : ∀ v ∈ a.toList, plain f v = true) (ih : ∀ v r, plain f v = true → VR σ v r → v = r) : a = b := by
  apply Array.ext hs
  intro i h1 h2
  exact ih _ _ (hp _ (by simp)) (h i _ _ (by simp [h1]) (by simp [h2]))
theorem plain_eq {σ : Nm} : ∀ (f : Nat) (v r : Value), plain f v = true → VR σ v r → v = r := by
  intro f
  induction f with
  | zero => intro v r h; simp [plain] at h
  | succ f ih =>
    intro v r h hv
    cases hv with
    | iface t hv => simp only [plain] at h; rw [ih _ _ h hv]
    | func fn h1 h2 h3 h4 =>
      simp only [plain, Bool.and_eq_true, List.all_eq_true] at h
      rw [ar_eq h1 h2 h.1 ih, ar_eq h3 h4 h.2 ih]
    | agg h1 h2 => simp only [plain, List.all_eq_true] at h; rw [ar_eq h1 h2 h ih]
    | tuple h1 h2 => simp only [plain, List.all_eq_true] at h; rw [ar_eq h1 h2 h ih]
    | ptr => simp [plain] at h
    | slc => simp [plain] at h
    | soft => simp [plain] at h
    | _ => rfl
theorem plain_refl {σ : Nm} : ∀ (f : Nat) (v : Value), plain f v = true → VR σ v v := by
  intro f
  induction f with
  | zero => intro v h; simp [plain] at h
  | succ f ih =>
    have key : ∀ (cs : Array Value), (∀ v ∈ cs.toList, plain f v = true) → ∀ (i : Nat) (v r : Value), cs[i]? = some v → cs[i]? = some r → VR σ v r := by
      intro cs h i v r hv hr
      rw [hv] at hr
      cases hr
      exact ih v (h v (Array.mem_toList_iff.2 (Array.mem_of_getElem? hv)))
    intro v h
    cases v with
    | bool b => exact .bool b
    | int k n => exact .int k n
    | float k n => exact .float k n
    | complex k a b => exact .complex k a b
    | string s => exact .string s
    | nilFunc => exact .nilFunc
    | nilIface => exact .nilIface
    | pointer a => cases a with
      | none => exact .nilp
      | some a => simp [plain] at h
    | slice a l c => cases a with
      | none => exact .nils l c
      | some a => simp [plain] at h
    | map a => cases a with
      | none => exact .nilMap
      | some a => simp [plain] at h
    | chan a => cases a with
      | none => exact .nilChan
      | some a => simp [plain] at h
    | iface t v => exact .iface t (ih v (by simpa [plain] using h))
    | func fn a c =>
      simp only [plain, Bool.and_eq_true, List.all_eq_true] at h
      exact .func fn rfl (key a h.1) rfl (key c h.2)
    | agg cs => simp only [plain, List.all_eq_true] at h; exact .agg rfl (key cs h)
    | tuple cs => simp only [plain, List.all_eq_true] at h; exact .tuple rfl (key cs h)

/-- The value of one cell. -/
def flat : Value → Bool
  | .agg _ | .tuple _ => false
  | _ => true
theorem VR.flat {σ : Nm} {v r : Value} (h : VR σ v r) : flat r = flat v := by cases h <;> rfl

/-- Blocks that stay as they are, and what they hold. -/
structure Prot where
  dom : Nat → Prop
  obj : Nat → Obj
instance : CoeFun Prot (fun _ => Nat → Prop) := ⟨Prot.dom⟩

structure Rel (P : Program) (Fr : Prot) (G : Nat) (σ : Nm) (H : Tr) (w : World) : Prop where
  glob : ∀ g, g < G → ∃ c, σ g = some ⟨g, 0, c⟩
  blk : ∀ n B, H.get n = some B → ∃ p c fz, σ n = some p ∧ w.heap[p.b]? = some (.cells c B.elem fz) ∧ (∀ o, o < c.size → ¬ (fz.1 ≤ o ∧ o < fz.2)) ∧
    p.base + B.cells.length ≤ c.size ∧ (B.soft = true → c.size = p.base + p.cap * P.cellsOf B.elem) ∧
    (∀ o v, B.cells[o]? = some v → ∃ r, c[p.base + o]? = some r ∧ VR σ v r) ∧ (B.ro = false → ¬ Fr p.b)
  apart : ∀ n m B C p q, H.get n = some B → H.get m = some C → n ≠ m → σ n = some p → σ m = some q → p.b = q.b →
    B.soft = false ∧ C.soft = false ∧ (p.base + B.cells.length ≤ q.base ∨ q.base + C.cells.length ≤ p.base)
  prot : ∀ b, Fr b → w.heap[b]? = some (Fr.obj b)
theorem Rel.lt {P : Program} {Fr : Prot} {G : Nat} {σ : Nm} {H : Tr} {w : World} (h : Rel P Fr G σ H w) (b : Nat) (hb : Fr b) : b < w.heap.size := by
  rcases Nat.lt_or_ge b w.heap.size with x | x
  · exact x
  · have := h.prot b hb; simp [Array.getElem?_eq_none x] at this

/-- What stays of a world. -/
structure Out (Fr : Prot) (w w' : World) : Prop where
  os : w'.os = w.os
  tape : w'.tape = w.tape
  output : w'.output = w.output
  size : w.heap.size ≤ w'.heap.size
  block : ∀ b, Fr b → w'.heap[b]? = w.heap[b]?
theorem Out.refl (Fr : Prot) (w : World) : Out Fr w w := ⟨rfl, rfl, rfl, Nat.le_refl _, fun _ _ => rfl⟩
theorem Out.trans {Fr : Prot} {a b c : World} (h : Out Fr a b) (k : Out Fr b c) : Out Fr a c :=
  ⟨k.os.trans h.os, k.tape.trans h.tape, k.output.trans h.output, Nat.le_trans h.size k.size, fun i hi => (k.block i hi).trans (h.block i hi)⟩

structure Aft (σ τ : Nm) (a b : Nat) : Prop where
  keep : Sub σ τ
  dom : ∀ n p, τ n = some p → σ n = some p ∨ Fs a b n
theorem Aft.refl (σ : Nm) (a b : Nat) : Aft σ σ a b := ⟨.refl _, fun _ _ h => .inl h⟩
theorem Aft.trans {σ τ υ : Nm} {a b c : Nat} (h : Aft σ τ a b) (k : Aft τ υ b c) (hab : a ≤ b) (hbc : b ≤ c) : Aft σ υ a c :=
  ⟨h.keep.trans k.keep, fun n p x => by
    rcases k.dom n p x with y | y
    · rcases h.dom n p y with z | z
      · exact .inl z
      · exact .inr ⟨z.1, Nat.lt_of_lt_of_le z.2 hbc⟩
    · exact .inr ⟨Nat.le_trans hab y.1, y.2⟩⟩
theorem Aft.none {σ τ : Nm} {a b n : Nat} (h : Aft σ τ a b) (hn : σ n = none) (hf : ¬ Fs a b n) : τ n = none := by
  cases hx : τ n with
  | none => rfl
  | some p =>
    rcases h.dom n p hx with x | x
    · rw [hn] at x; cases x
    · exact (hf x).elim

def runS {β : Type} (P : Program) (S : Sem β) (w : World) (K : β → World → Prop) : Prop := ∃ y w', S.run P w = .ok y w' ∧ K y w'

/-- What the machine does, the model does. -/
def Sim {α β : Type} (P : Program) (Fr : Prot) (G : Nat) (σ : Nm) (e : Ev α) (A : Nm → α → β → Prop) (run : World → (β → World → Prop) → Prop) : Prop :=
  ∀ H s r w, e H s = some r → All r.need → Rel P Fr G σ H w → (∀ n, Fs s.name r.sup.name n → σ n = none) → G ≤ s.name →
    run w fun y w' => ∃ τ, Aft σ τ s.name r.sup.name ∧ Rel P Fr G τ r.hp w' ∧ Out Fr w w' ∧ A τ r.val y

section
variable {P : Program} {Fr : Prot} {G : Nat} {σ : Nm}
theorem sim_pure {α β : Type} {A : Nm → α → β → Prop} {a : α} {y : β} (h : A σ a y) : Sim P Fr G σ (Ev.pure a) A (runS P (Sem.pure y)) := by
  intro H s r w hr hn hR hf hG
  simp only [Ev.pure, Option.some.injEq] at hr
  subst hr
  exact ⟨y, w, rfl, σ, .refl .., hR, .refl .., h⟩
theorem sim_fail {α β : Type} {A : Nm → α → β → Prop} {run : World → (β → World → Prop) → Prop} : Sim P Fr G σ (Ev.fail (α := α)) A run := by
  intro H s r w hr; simp [Ev.fail] at hr

def Mono {α : Type} (e : Ev α) : Prop := ∀ H s r, e H s = some r → s.name ≤ r.sup.name
theorem Framed.mono {α : Type} {e : Ev α} (h : Framed e) : Mono e := fun H s r hr => (h H s r hr).1

/-- One behind the other: 'glue' tells how the model's two runs join. -/
theorem sim_bind' {α β γ δ : Type} {e : Ev α} {f : α → Ev γ} {A : Nm → α → β → Prop} {B : Nm → γ → δ → Prop}
    {run₁ : World → (β → World → Prop) → Prop} {run₂ : β → World → (δ → World → Prop) → Prop} {run : World → (δ → World → Prop) → Prop}
    (me : Mono e) (mf : ∀ a, Mono (f a)) (h₁ : Sim P Fr G σ e A run₁) (h₂ : ∀ τ a y, Sub σ τ → A τ a y → Sim P Fr G τ (f a) B (run₂ y))
    (mono₁ : ∀ w K K', (∀ y w', K y w' → K' y w') → run₁ w K → run₁ w K')
    (mono₂ : ∀ y w K K', (∀ y w', K y w' → K' y w') → run₂ y w K → run₂ y w K')
    (glue : ∀ w K, run₁ w (fun y w' => run₂ y w' K) → run w K) : Sim P Fr G σ (e.bind f) B run := by
  intro H s r w hr hn hR hf hG
  unfold Ev.bind at hr
  cases hr₁ : e H s with
  | none => simp [hr₁] at hr
  | some r₁ =>
    obtain ⟨a, H₁, s₁, l₁, p₁⟩ := r₁
    simp only [hr₁] at hr
    cases hr₂ : f a H₁ s₁ with
    | none => simp [hr₂] at hr
    | some r₂ =>
      obtain ⟨b, H₂, s₂, l₂, p₂⟩ := r₂
      simp only [hr₂, Option.some.injEq] at hr
      subst hr
      have m₁ : s.name ≤ s₁.name := me _ _ _ hr₁
      have m₂ : s₁.name ≤ s₂.name := mf _ _ _ _ hr₂
      refine glue w _ (mono₁ w _ _ (fun y w₁ hy => ?_) (h₁ H s _ w hr₁ (all_app hn).1 hR (fun n hx => hf n ⟨hx.1, Nat.lt_of_lt_of_le hx.2 m₂⟩) hG))
      obtain ⟨τ, ha, hR₁, ho, hA⟩ := hy
      refine mono₂ y w₁ _ _ (fun z w₂ hz => ?_) (h₂ τ a y ha.keep hA H₁ s₁ _ w₁ hr₂ (all_app hn).2 hR₁ (fun n hx => ha.none (hf n ⟨Nat.le_trans m₁ hx.1, hx.2⟩) (fun q => by have h1 : n < s₁.name := q.2; have h2 : s₁.name ≤ n := hx.1; omega)) (Nat.le_trans hG m₁))
      obtain ⟨υ, hb, hR₂, ho₂, hB⟩ := hz
      exact ⟨υ, ha.trans hb m₁ m₂, hR₂, ho.trans ho₂, hB⟩

theorem runS_mono {β : Type} {S : Sem β} {w : World} {K K' : β → World → Prop} (h : ∀ y w', K y w' → K' y w') (hS : runS P S w K) : runS P S w K' :=
  let ⟨y, w', e, k⟩ := hS; ⟨y, w', e, h y w' k⟩
theorem runS_bind {β δ : Type} {S : Sem β} {g : β → Sem δ} {w : World} {K : δ → World → Prop} (h : runS P S w fun y w' => runS P (g y) w' K) : runS P (S.bind g) w K := by
  obtain ⟨y, w', e, z, w'', e', k⟩ := h
  exact ⟨z, w'', by rw [Sem.run_bind', e]; exact e', k⟩
theorem sim_bind {α β γ δ : Type} {e : Ev α} {f : α → Ev γ} {A : Nm → α → β → Prop} {B : Nm → γ → δ → Prop} {S : Sem β} {g : β → Sem δ}
    (me : Mono e) (mf : ∀ a, Mono (f a)) (h₁ : Sim P Fr G σ e A (runS P S)) (h₂ : ∀ τ a y, Sub σ τ → A τ a y → Sim P Fr G τ (f a) B (runS P (g y))) :
    Sim P Fr G σ (e.bind f) B (runS P (S.bind g)) :=
  sim_bind' me mf h₁ h₂ (fun _ _ _ h => runS_mono h) (fun _ _ _ _ h => runS_mono h) (fun _ _ => runS_bind)
end
end Go.Proofs.YtakfoidmabendaaDoor.E
