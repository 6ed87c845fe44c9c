/- Contracts of functions of this translation, and what they come to; what is not used is left out. -/
import Derived.OrdersHeld
import Derived.StillTail
import Derived.Test.YtofdiilfedjhkaaDoorKCls
import Derived.Test.YtofdiilfedjhkaaDoorKUtil

section
/- A region that draws its order: its reads are walked first, in the order of the text, in whatever world keeps the cells of the one at hand; what acts follows in its one order. -/
set_option linter.unusedVariables false
set_option linter.unusedSimpArgs false
namespace Go.Proofs.YtofdiilfedjhkaaDoor.U
open Go.RowKit
/-- Every cell that was there holds what it held. -/
def Ext (w w2 : World) : Prop := ∀ a v, w.cell? a = some v → w2.cell? a = some v
theorem Ext.refl (w : World) : Ext w w := fun _ _ h => h
theorem Ext.trans {a b c : World} (h : Ext a b) (k : Ext b c) : Ext a c := fun x v hx => k x v (h x v hx)
theorem Ext.push (w : World) (o : Obj) : Ext w { w with heap := w.heap.push o } := by
  intro a v h
  unfold World.cell? at *
  have hlt : a.block < w.heap.size := by
    rcases Nat.lt_or_ge a.block w.heap.size with h' | h'
    · exact h'
    · simp [Array.getElem?_eq_none h'] at h
  simpa [Array.getElem?_push, Nat.ne_of_lt hlt] using h
theorem Ext.freeze (w : World) (b : Addr) (n : Nat) : Ext w (w.freeze b n) := by
  intro a v h
  unfold World.freeze
  split
  · exact h
  · unfold World.cell? at *
    simp only [Array.getElem?_modify]
    by_cases hb : b.block = a.block
    · rw [if_pos hb]
      cases ho : w.heap[a.block]? with
      | none => rw [ho] at h; cases h
      | some o =>
        rw [ho] at h
        cases o with
        | cells c e fr => exact h
        | _ => cases h
    · rw [if_neg hb]; exact h
/-- A tree of steps that writes into nothing that was there. -/
inductive Grows {α : Type} : Sem α → Prop
  | pure (a : α) : Grows (.pure a)
  | load (m : Mode) (a : Addr) (k : Value → Sem α) : (∀ v, Grows (k v)) → Grows (.load m a k)
  | new (o : Obj) (k : Nat → Sem α) : (∀ v, Grows (k v)) → Grows (.new o k)
  | shape (r : Nat) (k : Option (TypeId × Nat) → Sem α) : (∀ v, Grows (k v)) → Grows (.shape r k)
  | choose (q : Question) (k : Nat → Sem α) : (∀ v, Grows (k v)) → Grows (.choose q k)
  | program (k : Program → Sem α) : (∀ v, Grows (k v)) → Grows (.program k)
  | mark (m : Mark) (k : Sem α) : Grows k → Grows (.mark m k)
  | freeze (a : Addr) (n : Nat) (k : Sem α) : Grows k → Grows (.freeze a n k)
  | halt (h : Halt) : Grows (.halt h)
theorem Grows.bind {α β : Type} {m : Sem α} {f : α → Sem β} (h : Grows m) (hf : ∀ a, Grows (f a)) : Grows (m.bind f) := by
  induction h with
  | pure a => exact hf a
  | load m a k _ ih => exact .load m a _ ih
  | new o k _ ih => exact .new o _ ih
  | shape r k _ ih => exact .shape r _ ih
  | choose q k _ ih => exact .choose q _ ih
  | program k _ ih => exact .program _ ih
  | mark m k _ ih => exact .mark m _ ih
  | freeze a n k _ ih => exact .freeze a n _ ih
  | halt h => exact .halt h
theorem Grows.bind' {α β : Type} {m : Sem α} {f : α → Sem β} (h : Grows m) (hf : ∀ a, Grows (f a)) : Grows (m >>= f) := h.bind hf
theorem Grows.run {α : Type} {m : Sem α} {P : Program} (h : Grows m) : ∀ {w w' : World} {v : α}, m.run P w = .ok v w' → Ext w w' := by
  induction h with
  | pure a => intro w w' v h; simp only [Sem.run] at h; injection h with _ h2; subst h2; exact Ext.refl _
  | load m a k _ ih =>
    intro w w' v h
    simp only [Sem.run] at h
    split at h
    · exact ih _ h
    · split at h
      · exact ih _ h
      · cases h
  | new o k _ ih => intro w w' v h; simp only [Sem.run] at h; exact (Ext.push w o).trans (ih _ h)
  | shape r k _ ih => intro w w' v h; simp only [Sem.run] at h; exact ih _ h
  | choose q k _ ih =>
    intro w w' v h
    simp only [Sem.run] at h
    split at h
    · exact ih _ h
    · exact fun a v hv => ih _ h a v hv
  | program k _ ih => intro w w' v h; simp only [Sem.run] at h; exact ih _ h
  | mark m k _ ih => intro w w' v h; simp only [Sem.run] at h; exact ih h
  | freeze a n k _ ih => intro w w' v h; simp only [Sem.run] at h; exact (Ext.freeze w a n).trans (ih h)
  | halt h => intro w w' v h; simp only [Sem.run] at h; cases h
theorem Grows.pure' {α : Type} (a : α) : Grows (Pure.pure a : Sem α) := .pure a
theorem Grows.ite {α : Type} {c : Prop} [Decidable c] {a b : Sem α} (h : Grows a) (k : Grows b) : Grows (if c then a else b) := by split <;> assumption
theorem Grows.program' : Grows Go.program := .program _ fun _ => .pure _
theorem Grows.stuck {α : Type} (s : String) : Grows (Go.stuck s : Sem α) := .halt _
theorem Grows.unsupported {α : Type} (s : Unsupported) : Grows (Go.unsupported s : Sem α) := .halt _
theorem Grows.typeInfo (t : TypeId) : Grows (Go.typeInfo t) := by
  unfold Go.typeInfo
  refine .bind' .program' fun p => ?_
  split
  · exact .pure' _
  · exact .stuck _
theorem Grows.underlying (t : TypeId) : Grows (Go.underlying t) := by
  unfold Go.underlying
  refine .bind' .program' fun p => ?_
  split
  · exact .pure' _
  · exact .stuck _
theorem Grows.sizeOf (t : TypeId) : Grows (Go.sizeOf t) := by
  unfold Go.sizeOf
  exact .bind' (.typeInfo t) fun _ => .pure' _
theorem Grows.newRow (t : TypeId) (c : Array Value) : Grows (Go.newRow t c) := by
  unfold Go.newRow
  exact .bind' (.new _ _ fun _ => .pure _) fun _ => .pure' _
theorem Grows.newVar (t : TypeId) (v : Value) : Grows (Go.newVar t v) := .newRow _ _
theorem Grows.box (t : TypeId) (v : Value) : Grows (Instr.box t v) := by
  unfold Instr.box
  exact .bind' (.newVar _ _) fun _ => .pure' _
theorem Grows.zeroValue (t : TypeId) : Grows (Go.zeroValue t) := by
  unfold Go.zeroValue
  refine .bind' (.typeInfo t) fun i => ?_
  split
  · exact .pure' _
  · exact .unsupported _
theorem Grows.alloc (t : TypeId) : Grows (Instr.alloc t true (.tuple #[])) := by
  unfold Instr.alloc
  refine .bind' (.zeroValue t) fun z => ?_
  exact .bind' (.newVar _ _) fun _ => .pure' _
theorem Grows.asInt (v : Value) : Grows (Go.asInt v) := by
  unfold Go.asInt
  refine .bind' ?_ fun _ => .pure' _
  unfold Go.asIntOf
  split
  · exact .pure' _
  · exact .unsupported _
  · exact .stuck _
theorem Grows.goPanic {α : Type} (v : Value) : Grows (Go.goPanic v : Sem α) := .halt _
theorem Grows.plainPanic {α : Type} (m : String) : Grows (Go.runtimePanic (.error m) : Sem α) := by
  unfold Go.runtimePanic
  exact .bind' .program' fun p => .goPanic _
theorem Grows.askRoom (n : Nat) : Grows (Go.askRoom n) := by
  unfold Go.askRoom
  exact .ite (.mark _ _ (.pure _)) (.pure' _)
theorem Grows.makeSlice (t : TypeId) (l c : Value) : Grows (Instr.makeSlice t l c) := by
  unfold Instr.makeSlice
  repeat' first
    | exact .pure' _
    | exact .stuck _
    | exact .unsupported _
    | exact .plainPanic _
    | exact .askRoom _
    | exact .sizeOf _
    | exact .zeroValue _
    | exact .newRow _ _
    | exact .newVar _ _
    | exact .asInt _
    | exact .typeInfo _
    | exact .underlying _
    | exact .choose _ _ fun _ => .pure _
    | (refine .bind' ?_ fun _ => ?_)
    | split
    | dsimp only
theorem Grows.buildSlice (t : TypeId) (n : Nat) (ps : Array (Nat × Value)) : Grows (Instr.buildSlice t n ps) := by
  unfold Instr.buildSlice
  repeat' first
    | exact .pure' _
    | exact .stuck _
    | exact .unsupported _
    | exact .plainPanic _
    | exact .askRoom _
    | exact .sizeOf _
    | exact .zeroValue _
    | exact .newRow _ _
    | exact .newVar _ _
    | exact .asInt _
    | exact .typeInfo _
    | exact .underlying _
    | exact .choose _ _ fun _ => .pure _
    | (refine .bind' ?_ fun _ => ?_)
    | split
    | dsimp only
theorem Grows.load' (a : Addr) (m : Mode) : Grows (Go.load a m) := .load _ _ _ fun _ => .pure _
theorem Grows.loadCellsFrom (a : Addr) : ∀ (n i : Nat) (acc : Array Value), Grows (Go.loadCellsFrom a i n acc)
  | 0, i, acc => by unfold Go.loadCellsFrom; exact .pure' _
  | n + 1, i, acc => by
    unfold Go.loadCellsFrom
    exact .bind' (.load' _ _) fun _ => loadCellsFrom a n (i + 1) _
/-- Where the tree of steps hangs on the program. -/
def GrowsIn {α : Type} (P : Program) (m : Sem α) : Prop := ∀ (w w' : World) (v : α), m.run P w = .ok v w' → Ext w w'
theorem GrowsIn.map {α β : Type} {P : Program} {m : Sem α} {f : α → β} (h : GrowsIn P m) : GrowsIn P (do Pure.pure (f (← m))) := by
  intro w w' v hr
  change (Sem.bind m fun a => Sem.pure (f a)).run P w = _ at hr
  rw [Sem.run_bind'] at hr
  cases hm : m.run P w with
  | ok a w1 =>
    rw [hm] at hr
    have e : (Result.ok v w' : Result β) = .ok (f a) w1 := hr.symm
    injection e with _ e2
    rw [e2]; exact h _ _ _ hm
  | halt x w1 =>
    rw [hm] at hr; cases hr
section
variable {P : Program} {ops : Array Oper} {md : Region.Mode} {Q : Exit → Act → World → Prop} {flag : Nat → Bool} {C : World → Prop}
def Closed (md : Region.Mode) (ops : Array Oper) (listed : Array Bool) : Prop := ∀ j oj, ops[j]? = some oj → listed.getD j false = true → ∀ e ∈ oj.after, Region.binds md e = true → listed.getD e.on false = true
theorem Closed.set {i : Nat} {listed : Array Bool} (inv : Closed md ops listed) (hi : i ∈ Region.ready md ops listed) : Closed md ops (listed.setIfInBounds i true) := by
  obtain ⟨_, oi, hoi, hall⟩ := mem_ready.1 hi
  intro j oj hj hl e he hb
  by_cases hij : i = j
  · subst hij
    have : oj = oi := Option.some.inj (hj.symm.trans hoi)
    subst this
    exact getD_set_true (hall e he hb)
  · rw [getD_set_ne false hij] at hl
    exact getD_set_true (inv j oj hj hl e he hb)
/-- Operations that look at no world. -/
def plainOp : Op → Bool
  | .move _ | .assign _ => true
  | _ => false
end
end Go.Proofs.YtofdiilfedjhkaaDoor.U
end

section
/- A region that draws its order: three at once; what looks at no world is walked as soon as it may come. -/
set_option linter.unusedVariables false
set_option linter.unusedSimpArgs false
namespace Go.Proofs.YtofdiilfedjhkaaDoor.U
open Go.RowKit
section
variable {P : Program} {md : Region.Mode} {ops : Array Oper} {Q : Exit → Act → World → Prop} {flag : Nat → Bool} {C : World → Prop}
def pureOp : Op → Bool
  | .move _ | .assign _ | .extract _ _ => true
  | _ => false
end
end Go.Proofs.YtofdiilfedjhkaaDoor.U
end
