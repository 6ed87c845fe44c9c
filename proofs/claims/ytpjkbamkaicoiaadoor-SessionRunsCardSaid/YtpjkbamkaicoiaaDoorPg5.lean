/- Contracts of functions of this translation, and what they come to; what is not used is left out. -/
import Derived.OrdersHeld
import Derived.StillTail
import Derived.Test.YtpjkbamkaicoiaaDoorPCls
import Derived.Test.YtpjkbamkaicoiaaDoorPUtil

section
/- A region that draws its order: its reads are walked first, in the order of the text, in whatever world keeps the cells of the one at hand; what acts follows in its one order. -/
set_option linter.unusedVariables false
set_option linter.unusedSimpArgs false
namespace Go.Proofs.YtpjkbamkaicoiaaDoor.U
open Go.RowKit
/-- Every cell that was there holds what it held. -/
def Ext (w w2 : World) : Prop := ∀ a v, w.cell? a = some v → w2.cell? a = some v
theorem Ext.refl (w : World) : Ext w w := fun _ _ h => h
theorem Ext.trans {a b c : World} (h : Ext a b) (k : Ext b c) : Ext a c := fun x v hx => k x v (h x v hx)
theorem Ext.push (w : World) (o : Obj) : Ext w { w with heap := w.heap.push o } := by
  intro a v h
  unfold World.cell? at *
  have hlt : a.block < w.heap.size := by
    rcases Nat.lt_or_ge a.block w.heap.size with h' | h'
    · exact h'
    · simp [Array.getElem?_eq_none h'] at h
  simpa [Array.getElem?_push, Nat.ne_of_lt hlt] using h
theorem Ext.freeze (w : World) (b : Addr) (n : Nat) : Ext w (w.freeze b n) := by
  intro a v h
  unfold World.freeze
  split
  · exact h
  · unfold World.cell? at *
    simp only [Array.getElem?_modify]
    by_cases hb : b.block = a.block
    · rw [if_pos hb]
      cases ho : w.heap[a.block]? with
      | none => rw [ho] at h; cases h
      | some o =>
        rw [ho] at h
        cases o with
        | cells c e fr => exact h
        | _ => cases h
    · rw [if_neg hb]; exact h
/-- A tree of steps that writes into nothing that was there. -/
inductive Grows {α : Type} : Sem α → Prop
  | pure (a : α) : Grows (.pure a)
  | load (m : Mode) (a : Addr) (k : Value → Sem α) : (∀ v, Grows (k v)) → Grows (.load m a k)
  | new (o : Obj) (k : Nat → Sem α) : (∀ v, Grows (k v)) → Grows (.new o k)
  | shape (r : Nat) (k : Option (TypeId × Nat) → Sem α) : (∀ v, Grows (k v)) → Grows (.shape r k)
  | choose (q : Question) (k : Nat → Sem α) : (∀ v, Grows (k v)) → Grows (.choose q k)
  | program (k : Program → Sem α) : (∀ v, Grows (k v)) → Grows (.program k)
  | mark (m : Mark) (k : Sem α) : Grows k → Grows (.mark m k)
  | freeze (a : Addr) (n : Nat) (k : Sem α) : Grows k → Grows (.freeze a n k)
  | halt (h : Halt) : Grows (.halt h)
theorem Grows.bind {α β : Type} {m : Sem α} {f : α → Sem β} (h : Grows m) (hf : ∀ a, Grows (f a)) : Grows (m.bind f) := by
  induction h with
  | pure a => exact hf a
  | load m a k _ ih => exact .load m a _ ih
  | new o k _ ih => exact .new o _ ih
  | shape r k _ ih => exact .shape r _ ih
  | choose q k _ ih => exact .choose q _ ih
  | program k _ ih => exact .program _ ih
  | mark m k _ ih => exact .mark m _ ih
  | freeze a n k _ ih => exact .freeze a n _ ih
  | halt h => exact .halt h
theorem Grows.bind' {α β : Type} {m : Sem α} {f : α → Sem β} (h : Grows m) (hf : ∀ a, Grows (f a)) : Grows (m >>= f) := h.bind hf
theorem Grows.run {α : Type} {m : Sem α} {P : Program} (h : Grows m) : ∀ {w w' : World} {v : α}, m.run P w = .ok v w' → Ext w w' := by
  induction h with
  | pure a => intro w w' v h; simp only [Sem.run] at h; injection h with _ h2; subst h2; exact Ext.refl _
  | load m a k _ ih =>
    intro w w' v h
    simp only [Sem.run] at h
    split at h
    · exact ih _ h
    · split at h
      · exact ih _ h
      · cases h
  | new o k _ ih => intro w w' v h; simp only [Sem.run] at h; exact (Ext.push w o).trans (ih _ h)
  | shape r k _ ih => intro w w' v h; simp only [Sem.run] at h; exact ih _ h
  | choose q k _ ih =>
    intro w w' v h
    simp only [Sem.run] at h
    split at h
    · exact ih _ h
    · exact fun a v hv => ih _ h a v hv
  | program k _ ih => intro w w' v h; simp only [Sem.run] at h; exact ih _ h
  | mark m k _ ih => intro w w' v h; simp only [Sem.run] at h; exact ih h
  | freeze a n k _ ih => intro w w' v h; simp only [Sem.run] at h; exact (Ext.freeze w a n).trans (ih h)
  | halt h => intro w w' v h; simp only [Sem.run] at h; cases h
theorem Grows.pure' {α : Type} (a : α) : Grows (Pure.pure a : Sem α) := .pure a
theorem Grows.ite {α : Type} {c : Prop} [Decidable c] {a b : Sem α} (h : Grows a) (k : Grows b) : Grows (if c then a else b) := by split <;> assumption
theorem Grows.program' : Grows Go.program := .program _ fun _ => .pure _
theorem Grows.stuck {α : Type} (s : String) : Grows (Go.stuck s : Sem α) := .halt _
theorem Grows.unsupported {α : Type} (s : Unsupported) : Grows (Go.unsupported s : Sem α) := .halt _
theorem Grows.typeInfo (t : TypeId) : Grows (Go.typeInfo t) := by
  unfold Go.typeInfo
  refine .bind' .program' fun p => ?_
  split
  · exact .pure' _
  · exact .stuck _
theorem Grows.underlying (t : TypeId) : Grows (Go.underlying t) := by
  unfold Go.underlying
  refine .bind' .program' fun p => ?_
  split
  · exact .pure' _
  · exact .stuck _
theorem Grows.sizeOf (t : TypeId) : Grows (Go.sizeOf t) := by
  unfold Go.sizeOf
  exact .bind' (.typeInfo t) fun _ => .pure' _
theorem Grows.newRow (t : TypeId) (c : Array Value) : Grows (Go.newRow t c) := by
  unfold Go.newRow
  exact .bind' (.new _ _ fun _ => .pure _) fun _ => .pure' _
theorem Grows.newVar (t : TypeId) (v : Value) : Grows (Go.newVar t v) := .newRow _ _
theorem Grows.box (t : TypeId) (v : Value) : Grows (Instr.box t v) := by
  unfold Instr.box
  exact .bind' (.newVar _ _) fun _ => .pure' _
theorem Grows.zeroValue (t : TypeId) : Grows (Go.zeroValue t) := by
  unfold Go.zeroValue
  refine .bind' (.typeInfo t) fun i => ?_
  split
  · exact .pure' _
  · exact .unsupported _
theorem Grows.alloc (t : TypeId) : Grows (Instr.alloc t true (.tuple #[])) := by
  unfold Instr.alloc
  refine .bind' (.zeroValue t) fun z => ?_
  exact .bind' (.newVar _ _) fun _ => .pure' _
theorem Grows.asInt (v : Value) : Grows (Go.asInt v) := by
  unfold Go.asInt
  refine .bind' ?_ fun _ => .pure' _
  unfold Go.asIntOf
  split
  · exact .pure' _
  · exact .unsupported _
  · exact .stuck _
theorem Grows.goPanic {α : Type} (v : Value) : Grows (Go.goPanic v : Sem α) := .halt _
theorem Grows.plainPanic {α : Type} (m : String) : Grows (Go.runtimePanic (.error m) : Sem α) := by
  unfold Go.runtimePanic
  exact .bind' .program' fun p => .goPanic _
theorem Grows.askRoom (n : Nat) : Grows (Go.askRoom n) := by
  unfold Go.askRoom
  exact .ite (.mark _ _ (.pure _)) (.pure' _)
theorem Grows.makeSlice (t : TypeId) (l c : Value) : Grows (Instr.makeSlice t l c) := by
  unfold Instr.makeSlice
  repeat' first
    | exact .pure' _
    | exact .stuck _
    | exact .unsupported _
    | exact .plainPanic _
    | exact .askRoom _
    | exact .sizeOf _
    | exact .zeroValue _
    | exact .newRow _ _
    | exact .newVar _ _
    | exact .asInt _
    | exact .typeInfo _
    | exact .underlying _
    | exact .choose _ _ fun _ => .pure _
    | (refine .bind' ?_ fun _ => ?_)
    | split
    | dsimp only
theorem Grows.buildSlice (t : TypeId) (n : Nat) (ps : Array (Nat × Value)) : Grows (Instr.buildSlice t n ps) := by
  unfold Instr.buildSlice
  repeat' first
    | exact .pure' _
    | exact .stuck _
    | exact .unsupported _
    | exact .plainPanic _
    | exact .askRoom _
    | exact .sizeOf _
    | exact .zeroValue _
    | exact .newRow _ _
    | exact .newVar _ _
    | exact .asInt _
    | exact .typeInfo _
    | exact .underlying _
    | exact .choose _ _ fun _ => .pure _
    | (refine .bind' ?_ fun _ => ?_)
    | split
    | dsimp only
theorem Grows.markStringish (a : Addr) : Grows (Go.markStringish a) := by
  unfold Go.markStringish
  refine .bind' (.shape _ _ fun _ => .pure _) fun x => ?_
  split
  · exact .freeze _ _ _ (.pure _)
  · exact .pure' _
theorem Grows.stringToBytes (t : TypeId) (s : ByteArray) : Grows (Conv.stringToBytes t s) := by
  unfold Conv.stringToBytes
  refine .bind' (.choose _ _ fun _ => .pure _) fun x => ?_
  refine .bind' (.newRow _ _) fun x => .bind' (.markStringish _) fun _ => .pure' _
theorem Grows.load' (a : Addr) (m : Mode) : Grows (Go.load a m) := .load _ _ _ fun _ => .pure _
theorem Grows.loadCellsFrom (a : Addr) : ∀ (n i : Nat) (acc : Array Value), Grows (Go.loadCellsFrom a i n acc)
  | 0, i, acc => by unfold Go.loadCellsFrom; exact .pure' _
  | n + 1, i, acc => by
    unfold Go.loadCellsFrom
    exact .bind' (.load' _ _) fun _ => loadCellsFrom a n (i + 1) _
theorem Grows.forIn {α β : Type} {f : α → β → Sem (ForInStep β)} (h : ∀ a b, Grows (f a b)) : ∀ (l : List α) (b : β), Grows (forIn l b f)
  | [], b => by rw [List.forIn_nil]; exact .pure' _
  | a :: l, b => by
    rw [List.forIn_cons]
    refine .bind' (h a b) fun r => ?_
    split
    · exact .pure' _
    · exact forIn h l _
theorem Grows.bytesToString (x : Value) : Grows (Conv.bytesToString x) := by
  unfold Conv.bytesToString
  split
  · exact .pure' _
  · refine .bind' (.loadCellsFrom _ _ _ _) fun c => ?_
    refine .bind' ?_ fun _ => .pure' _
    rw [← Array.forIn_toList]
    refine .forIn (fun a b => ?_) _ _
    split
    · exact .pure' _
    · exact .stuck _
  · exact .stuck _
/-- Where the tree of steps hangs on the program. -/
def GrowsIn {α : Type} (P : Program) (m : Sem α) : Prop := ∀ (w w' : World) (v : α), m.run P w = .ok v w' → Ext w w'
theorem Grows.inn {α : Type} {m : Sem α} {P : Program} (h : Grows m) : GrowsIn P m := fun _ _ _ hr => h.run hr
theorem GrowsIn.map {α β : Type} {P : Program} {m : Sem α} {f : α → β} (h : GrowsIn P m) : GrowsIn P (do Pure.pure (f (← m))) := by
  intro w w' v hr
  change (Sem.bind m fun a => Sem.pure (f a)).run P w = _ at hr
  rw [Sem.run_bind'] at hr
  cases hm : m.run P w with
  | ok a w1 =>
    rw [hm] at hr
    have e : (Result.ok v w' : Result β) = .ok (f a) w1 := hr.symm
    injection e with _ e2
    rw [e2]; exact h _ _ _ hm
  | halt x w1 =>
    rw [hm] at hr; cases hr
def bytesConv (P : Program) (src dst : TypeId) : Bool :=
  match P.underlying src, P.underlying dst with
  | some (.slice e), some .string => (match P.underlying e with | some (.int .u8) => true | _ => false)
  | some .string, some (.slice e) => (match P.underlying e with | some (.int .u8) => true | _ => false)
  | _, _ => false
theorem run_underlying' {P : Program} {t : TypeId} {d : TypeDesc} (h : P.underlying t = some d) {β : Type} (f : TypeDesc → Sem β) (w : World) : (Go.underlying t >>= f).run P w = (f d).run P w := by
  change (Sem.bind _ f).run P w = _
  rw [Sem.run_bind', run_underlying h]; rfl
theorem grows_convert {P : Program} {src dst : TypeId} (h : bytesConv P src dst = true) (x : Value) : GrowsIn P (convert src dst x) := by
  unfold bytesConv at h
  intro w w' v hr
  unfold convert at hr
  split at h
  · rename_i e h1 h2
    split at h
    · rename_i h3
      rw [run_underlying' h1, run_underlying' h2] at hr
      cases x <;> simp only [] at hr <;> first
        | exact (Grows.bytesToString _).run (by rwa [run_underlying' h3] at hr)
        | exact (Grows.pure' _).run hr
        | exact (show Grows (Conv.intToString _) from .pure' _).run hr
    · cases h
  · rename_i e h1 h2
    split at h
    · rename_i h3
      rw [run_underlying' h1, run_underlying' h2] at hr
      cases x <;> simp only [] at hr <;> first
        | exact (Grows.stringToBytes _ _).run (by rwa [run_underlying' h3] at hr)
        | exact (Grows.unsupported _).run hr
        | (split at hr <;> exact (Grows.unsupported _).run hr)
    · cases h
  · cases h
/-- Operations that only hand back a value. -/
def heldOp : Op → Bool
  | .move _ | .assign _ | .pick .. | .build .. | .load .. | .nilCheck _ | .binOp .. | .unOp .. | .convert .. | .slice .. | .fieldAddr .. | .field .. | .indexAddr .. | .index .. | .extract .. => true
  | .call c => (match c.callee with | .builtin .len | .builtin .cap | .builtin .min | .builtin .max => true | _ => false)
  | _ => false
theorem map_value {α : Type} {g : α → Value} {P : Program} {m : Sem α} {w w' : World} {n : Next} (h : (do Pure.pure (Next.value (g (← m))) : Sem Next).run P w = .ok n w') : ∃ u, n = .value u := by
  change (Sem.bind m fun a => Sem.pure (Next.value (g a))).run P w = _ at h
  rw [Sem.run_bind'] at h
  cases hm : m.run P w with
  | ok a w1 =>
    rw [hm] at h
    have e : (Result.ok (Next.value (g a)) w1 : Result Next) = .ok n w' := h
    injection e with e1 _
    exact ⟨_, e1.symm⟩
  | halt x w1 => rw [hm] at h; cases h
theorem bind_ok {α β : Type} {P : Program} {m : Sem α} {f : α → Sem β} {w w' : World} {v : β} (h : (m >>= f).run P w = .ok v w') : ∃ a w1, m.run P w = .ok a w1 ∧ (f a).run P w1 = .ok v w' := by
  change (Sem.bind m f).run P w = _ at h
  rw [Sem.run_bind'] at h
  cases hm : m.run P w with
  | ok a w1 => rw [hm] at h; exact ⟨a, w1, rfl, h⟩
  | halt x w1 => rw [hm] at h; cases h
theorem nilDeref_halts {α : Type} {P : Program} {w w' : World} {n : α} (h : (runtimePanic .nilDeref : Sem α).run P w = .ok n w') : False := by
  unfold runtimePanic at h
  change (Sem.bind Go.program _).run P w = _ at h
  rw [Sem.run_bind'] at h
  cases h
theorem held_value {P : Program} {o : Oper} (ho : heldOp o.op = true) {ρ : Operand → Value} {w w' : World} {n : Next} (h : (execOp ρ o).run P w = .ok n w') : ∃ u, n = .value u := by
  obtain ⟨dst, op, ty, pos, after, guard⟩ := o
  cases op <;> simp only [heldOp, Bool.false_eq_true] at ho <;> simp only [execOp] at h <;> first
    | exact map_value (g := id) h
    | exact map_value h
    | (injection h with h1 _; exact ⟨_, h1.symm⟩)
    | skip
  · rename_i x
    split at h
    · exact (nilDeref_halts h).elim
    · exact (nilDeref_halts h).elim
    · exact (nilDeref_halts h).elim
    · split at h
      · exact (nilDeref_halts h).elim
      · obtain ⟨p, w1, _, h⟩ := bind_ok h
        obtain ⟨b, w2, _, h⟩ := bind_ok h
        split at h
        · obtain ⟨_, w3, h0, _⟩ := bind_ok h
          cases h0
        · injection h with h1 _; exact ⟨_, h1.symm⟩
      · injection h with h1 _; exact ⟨_, h1.symm⟩
    · injection h with h1 _; exact ⟨_, h1.symm⟩
  · rename_i c
    obtain ⟨callee, args, ats⟩ := c
    cases callee with
    | builtin b =>
      cases b <;> simp only [Bool.false_eq_true] at ho <;> exact map_value (g := id) h
    | value f => simp at ho
    | invoke f r => simp at ho
section
variable {P : Program} {ops : Array Oper} {md : Region.Mode} {Q : Exit → Act → World → Prop} {flag : Nat → Bool} {C : World → Prop}
def Closed (md : Region.Mode) (ops : Array Oper) (listed : Array Bool) : Prop := ∀ j oj, ops[j]? = some oj → listed.getD j false = true → ∀ e ∈ oj.after, Region.binds md e = true → listed.getD e.on false = true
theorem Closed.set {i : Nat} {listed : Array Bool} (inv : Closed md ops listed) (hi : i ∈ Region.ready md ops listed) : Closed md ops (listed.setIfInBounds i true) := by
  obtain ⟨_, oi, hoi, hall⟩ := mem_ready.1 hi
  intro j oj hj hl e he hb
  by_cases hij : i = j
  · subst hij
    have : oj = oi := Option.some.inj (hj.symm.trans hoi)
    subst this
    exact getD_set_true (hall e he hb)
  · rw [getD_set_ne false hij] at hl
    exact getD_set_true (inv j oj hj hl e he hb)
/-- j waits for i, over some steps. -/
def waitsT (md : Region.Mode) (ops : Array Oper) : Nat → Nat → Nat → Bool
  | 0, _, _ => false
  | f + 1, j, i => match ops[j]? with
    | some oj => oj.after.any fun e => Region.binds md e && (e.on == i || waitsT md ops f e.on i)
    | none => false
theorem waitsT_listed {i : Nat} {listed : Array Bool} (inv : Closed md ops listed) : ∀ (f j : Nat), (∀ oj, ops[j]? = some oj → ∀ e ∈ oj.after, Region.binds md e = true → listed.getD e.on false = true) → waitsT md ops f j i = true → listed.getD i false = true
  | 0, _, _, h => by cases h
  | f + 1, j, hj, h => by
    unfold waitsT at h
    split at h
    · rename_i oj ho
      obtain ⟨e, he, hb⟩ := Array.any_eq_true'.1 h
      simp only [Bool.and_eq_true, Bool.or_eq_true, beq_iff_eq] at hb
      have hl := hj oj ho e he hb.1
      rcases hb.2 with h1 | h1
      · rw [← h1]; exact hl
      · exact waitsT_listed inv f e.on (fun o ho e' he' hb' => inv _ o ho hl e' he' hb') h1
    · cases h
/-- Whatever order is picked from here on; behind an operation that is flagged C holds. -/
def wpAnyM (P : Program) (md : Region.Mode) (ops : Array Oper) (Q : Exit → Act → World → Prop) (flag : Nat → Bool) (C : World → Prop) : Nat → Array Bool → Act → World → Prop
  | 0, listed, a, w => Region.ready md ops listed = [] ∧ Q .normal a w
  | fuel + 1, listed, a, w =>
    (Region.ready md ops listed = [] → Q .normal a w) ∧
    ∀ i ∈ Region.ready md ops listed, wpOp P ops Q i (fun a' w' => (flag i = true → C w → C w') ∧ wpAnyM P md ops Q flag C fuel (listed.setIfInBounds i true) a' w') a w
theorem wpAny_of_mix : ∀ (fuel : Nat) (listed : Array Bool) (a : Act) (w : World), wpAnyM P md ops Q flag C fuel listed a w → wpAny P md ops Q fuel listed a w
  | 0, _, _, _, h => h
  | fuel + 1, _, _, _, h => ⟨h.1, fun i hi => wpOp_mono (fun a' w' h' => wpAny_of_mix fuel _ a' w' h'.2) (h.2 i hi)⟩
theorem wpAnyM_first {C' : World → Prop} {i : Nat} {oi : Oper} {v : Value} (hi : ops[i]? = some oi) (hsel : ∀ (j : Nat) (o : Oper) cs b, ops[j]? = some o → o.op ≠ .select cs b)
    (hQ : ∀ c a d v w, Q (.panic c) (a.put d v) w → Q (.panic c) a w)
    (hfl : ∀ listed, Closed md ops listed → listed.getD i true = false → ∀ j ∈ Region.ready md ops listed, j ≠ i → ∀ w w', C' w → (flag j = true → C w → C w') → C' w') :
    ∀ (fuel : Nat) (listed : Array Bool) (a : Act) (w : World), Closed md ops listed →
      (∀ j oj, ops[j]? = some oj → j ≠ i → listed.getD j true = false → (∀ e ∈ oj.after, Region.binds md e = true → e.on ≠ i) → oi.apart ops oj = true) →
      i ∈ Region.ready md ops listed → YieldsIf P ops C' oi v a → C' w →
      wpAnyM P md ops Q flag C fuel (listed.setIfInBounds i true) (a.put oi.dst v) w → wpAnyM P md ops Q flag C (fuel + 1) listed a w := by
  intro fuel
  induction fuel with
  | zero =>
    intro listed a w _ _ hr hy hS H
    refine ⟨fun h => (by rw [h] at hr; cases hr), fun j hj => ?_⟩
    by_cases hji : j = i
    · subst hji; exact hy.wpOp hi hS ⟨fun _ h => h, H⟩
    · have := ready_mono hj hji
      rw [H.1] at this
      cases this
  | succ fuel ih =>
    intro listed a w inv hfree hr hy hS H
    refine ⟨fun h => (by rw [h] at hr; cases hr), fun j hj => ?_⟩
    by_cases hji : j = i
    · subst hji; exact hy.wpOp hi hS ⟨fun _ h => h, H⟩
    · have h1 := H.2 j (ready_mono hj hji)
      have hfj := hfl listed inv (mem_ready.1 hr).1 j hj hji w
      obtain ⟨hjun, oj, hoj, hall⟩ := mem_ready.1 hj
      have hnot : ∀ e ∈ oj.after, Region.binds md e = true → e.on ≠ i := fun e he hb heq => by
        have h1 := hall e he hb
        have h0 := (mem_ready.1 hr).1
        rw [heq, getD_both h0] at h1
        cases h1
      have h2 := wpOp_putIf hoj (hfree j oj hoj hji hjun hnot) (fun cs b => hsel i oi cs b hi) (fun cs b => hsel j oj cs b hoj) (fun c a w => hQ c a _ _ w) hy h1
      have hfree' : ∀ k ok, ops[k]? = some ok → k ≠ i → (listed.setIfInBounds j true).getD k true = false →
          (∀ e ∈ ok.after, Region.binds md e = true → e.on ≠ i) → oi.apart ops ok = true := fun k ok hk hki hun hno => by
        refine hfree k ok hk hki ?_ hno
        by_cases hjk : j = k
        · subst hjk; exact hjun
        · rw [getD_set_ne true hjk] at hun; exact hun
      refine wpOp_mono (fun a' w' h3 => ⟨h3.2.1, ih (listed.setIfInBounds j true) a' w' (inv.set hj) hfree' (ready_mono hr (Ne.symm hji)) h3.1 (hfj w' hS h3.2.1) ?_⟩) h2
      rw [Array.setIfInBounds_comm _ _ hji]
      exact h3.2.2
theorem yieldsIf_of {o : Oper} (ho : heldOp o.op = true) {v : Value} {a : Act} (h : YieldsIn P ops C o v a) : YieldsIf P ops C o v a := by
  rcases h with ⟨h1, h2⟩ | h
  · refine .inl ⟨h1, fun w hw => ?_⟩
    have h3 := h2 w hw
    unfold Oper.quietAt at h3
    cases hr : (execOp a.eval o).run P w with
    | ok n w' =>
      obtain ⟨u, rfl⟩ := held_value ho hr
      rw [hr] at h3
      obtain ⟨e1, e2⟩ := h3
      rw [e1, e2]
    | halt x w' => rw [hr] at h3; cases h3
  · exact .inr h
theorem wpQuiet_mono {L L' : Act → Prop} (h : ∀ a, L a → L' a) : ∀ (l : List Oper) (a : Act), wpQuiet P ops C L l a → wpQuiet P ops C L' l a
  | [], a, hh => h a hh
  | o :: r, a, hh => by
    unfold wpQuiet at hh ⊢
    split
    · rename_i hw
      rw [if_pos hw] at hh
      exact Oper.quiet_mono (wpQuiet_mono h r) hh
    · rename_i hw
      rw [if_neg hw] at hh
      exact wpQuiet_mono h r _ hh
/-- Operations that look at no world. -/
def plainOp : Op → Bool
  | .move _ | .assign _ => true
  | _ => false
theorem plain_all {o : Oper} (ho : plainOp o.op = true) {v : Value} {a : Act} {w : World} (hw : C w) (h : YieldsIf P ops C o v a) : YieldsIf P ops (fun _ => True) o v a := by
  rcases h with ⟨h1, h2⟩ | h
  · refine .inl ⟨h1, fun w2 _ => ?_⟩
    have h3 := h2 w hw
    obtain ⟨dst, op, ty, pos, after, guard⟩ := o
    cases op <;> simp only [plainOp, Bool.false_eq_true] at ho
    · simp only [execOp] at h3 ⊢; injection h3 with h4 _; rw [← h4]; rfl
    · simp only [execOp] at h3 ⊢; injection h3 with h4 _; rw [← h4]; rfl
  · exact .inr h
def kindAt (ops : Array Oper) (k : Op → Bool) (i : Nat) : Bool := match ops[i]? with | some o => k o.op | none => false
def ordHead (md : Region.Mode) (ops : Array Oper) (k : Array Bool → Bool) : List Nat → Array Bool → Bool
  | [], listed => k listed
  | i :: r, listed => (Region.ready md ops listed).contains i && Region.free md ops listed i && kindAt ops heldOp i && ordHead md ops k r (listed.setIfInBounds i true)
def ordTail (md : Region.Mode) (ops : Array Oper) : List Nat → Array Bool → Bool
  | [], listed => (Region.ready md ops listed).isEmpty
  | i :: r, listed => decide (Region.ready md ops listed = [i]) && ordTail md ops r (listed.setIfInBounds i true)
def growsOp (P : Program) : Op → Bool
  | .box .. | .alloc _ | .buildSlice .. | .makeSlice .. => true
  | .convert src dst _ => bytesConv P src dst
  | _ => false
theorem grows_op {o : Oper} (h : growsOp P o.op = true) (ρ : Operand → Value) : GrowsIn P (execOp ρ o) := by
  obtain ⟨dst, op, ty, pos, after, guard⟩ := o
  cases op <;> simp only [growsOp, Bool.false_eq_true] at h <;> simp only [execOp]
  · exact GrowsIn.map (f := Next.value) (Grows.alloc _).inn
  · exact GrowsIn.map (f := Next.value) (Grows.box _ _).inn
  · exact GrowsIn.map (f := Next.value) (Grows.buildSlice _ _ _).inn
  · exact GrowsIn.map (f := Next.value) (grows_convert h _)
  · exact GrowsIn.map (f := Next.value) (Grows.makeSlice _ _ _).inn
theorem grows_value {o : Oper} (h : growsOp P o.op = true) {ρ : Operand → Value} {w w' : World} {n : Next} (hr : (execOp ρ o).run P w = .ok n w') : ∃ u, n = .value u := by
  obtain ⟨dst, op, ty, pos, after, guard⟩ := o
  cases op <;> simp only [growsOp, Bool.false_eq_true] at h <;> simp only [execOp] at hr <;> exact map_value (g := id) hr
theorem wpOp_grows {i : Nat} {o : Oper} (hi : ops[i]? = some o) (h : growsOp P o.op = true) {K : Act → World → Prop} {a : Act} {w : World} (hh : wpOp P ops Q i K a w) : wpOp P ops Q i (fun a' w' => Ext w w' ∧ K a' w') a w := by
  unfold wpOp at *
  simp only [hi] at *
  split
  · rename_i hw
    simp only [hw, if_true] at hh
    refine hh.imp (fun hk => ?_) id
    unfold Oper.wp at *
    cases hr : (execOp a.eval o).run P w with
    | ok n w' =>
      obtain ⟨u, rfl⟩ := grows_value h hr
      rw [hr] at hk
      exact ⟨grows_op h _ _ _ _ hr, hk⟩
    | halt x w' => rw [hr] at hk; cases x <;> exact hk
  · rename_i hw
    simp only [hw] at hh
    exact ⟨Ext.refl _, hh⟩
theorem ops_of_ready {i : Nat} {listed : Array Bool} (h : Region.ready md ops listed = [i]) : ∃ o, ops[i]? = some o := by
  have : i ∈ Region.ready md ops listed := by rw [h]; exact List.mem_singleton.2 rfl
  obtain ⟨_, o, ho, _⟩ := mem_ready.1 this
  exact ⟨o, ho⟩
theorem wpAnyM_tail : ∀ (tl : List Nat) (listed : Array Bool) (a : Act) (w : World), ordTail md ops tl listed = true → (∀ t ∈ tl, flag t = false) →
    wpList P ops Q (tl.filterMap (ops[·]?)) a w → wpAnyM P md ops Q flag C tl.length listed a w
  | [], listed, a, w, hB, _, h => ⟨by simpa [ordTail] using hB, h⟩
  | i :: r, listed, a, w, hB, hf, h => by
    simp only [ordTail, Bool.and_eq_true, decide_eq_true_eq] at hB
    obtain ⟨o, ho⟩ := ops_of_ready hB.1
    rw [List.filterMap_cons_some ho] at h
    refine ⟨fun h0 => (by rw [hB.1] at h0; cases h0), fun j hj => ?_⟩
    rw [hB.1, List.mem_singleton] at hj
    subst hj
    have hw : wpOp P ops Q j (wpList P ops Q (r.filterMap (ops[·]?))) a w := by unfold wpOp; simp only [ho]; exact h
    exact wpOp_mono (fun a' w' h' => ⟨fun hc => (by rw [hf j List.mem_cons_self] at hc; cases hc), wpAnyM_tail r _ a' w' hB.2 (fun t ht => hf t (List.mem_cons_of_mem _ ht)) h'⟩) hw
/-- Each of t1 by itself, C shown anew behind it; then t2. -/
def wpParts (P : Program) (ops : Array Oper) (Q : Exit → Act → World → Prop) (C : World → Prop) (t2 : List Nat) : List Nat → Act → World → Prop
  | [], a, w => wpList P ops Q (t2.filterMap (ops[·]?)) a w
  | i :: r, a, w => wpOp P ops Q i (fun a' w' => C w' ∧ wpParts P ops Q C t2 r a' w') a w
theorem wpAnyM_parts : ∀ (tl tl2 : List Nat) (listed : Array Bool) (a : Act) (w : World), ordTail md ops (tl ++ tl2) listed = true → (∀ t ∈ tl2, flag t = false) →
    wpParts P ops Q C tl2 tl a w → wpAnyM P md ops Q flag C (tl.length + tl2.length) listed a w
  | [], tl2, listed, a, w, hB, hf, h => by
    rw [List.length_nil, Nat.zero_add]
    exact wpAnyM_tail tl2 listed a w hB hf h
  | i :: r, tl2, listed, a, w, hB, hf, h => by
    simp only [List.cons_append, ordTail, Bool.and_eq_true, decide_eq_true_eq] at hB
    rw [show (i :: r).length + tl2.length = (r.length + tl2.length) + 1 by simp only [List.length_cons]; omega]
    refine ⟨fun h0 => (by rw [hB.1] at h0; cases h0), fun j hj => ?_⟩
    rw [hB.1, List.mem_singleton] at hj
    subst hj
    exact wpOp_mono (fun a' w' h' => ⟨fun _ _ => h'.1, wpAnyM_parts r tl2 _ a' w' hB.2 hf h'.2⟩) h
theorem wpParts_grow {w0 : World} (hC : ∀ w, Ext w0 w → C w) {tl2 : List Nat} : ∀ (tl : List Nat) (a : Act) (w : World),
    (∀ t ∈ tl, kindAt ops (growsOp P) t = true) → Ext w0 w → wpList P ops Q ((tl ++ tl2).filterMap (ops[·]?)) a w → wpParts P ops Q C tl2 tl a w
  | [], a, w, _, _, h => h
  | i :: r, a, w, hg, hE, h => by
    have hgi := hg i List.mem_cons_self
    unfold kindAt at hgi
    split at hgi
    · rename_i o ho
      rw [List.cons_append, List.filterMap_cons_some ho] at h
      have hw : wpOp P ops Q i (wpList P ops Q ((r ++ tl2).filterMap (ops[·]?))) a w := by unfold wpOp; simp only [ho]; exact h
      exact wpOp_mono (fun a' w' h' => ⟨hC _ (hE.trans h'.1), wpParts_grow hC r a' w' (fun t ht => hg t (List.mem_cons_of_mem _ ht)) (hE.trans h'.1) h'.2⟩) (wpOp_grows ho hgi hw)
    · cases hgi
theorem wpAnyM_head {L : Act → Prop} {n : Nat} {w : World} {K : Array Bool → Bool} (hsel : ∀ (j : Nat) (o : Oper) cs b, ops[j]? = some o → o.op ≠ .select cs b) (hQ : ∀ c a d v w, Q (.panic c) (a.put d v) w → Q (.panic c) a w) (hC : C w)
    (hK : ∀ listed a, K listed = true → Closed md ops listed → L a → wpAnyM P md ops Q flag C n listed a w) :
    ∀ (hd : List Nat) (listed : Array Bool) (a : Act), (∀ i ∈ hd, kindAt ops plainOp i = true ∨ ∀ listed, Closed md ops listed → listed.getD i true = false → ∀ j ∈ Region.ready md ops listed, j ≠ i → flag j = true) →
    ordHead md ops K hd listed = true → Closed md ops listed → wpQuiet P ops C L (hd.filterMap (ops[·]?)) a → wpAnyM P md ops Q flag C (hd.length + n) listed a w
  | [], listed, a, _, hB, inv, h => by
    rw [List.length_nil, Nat.zero_add]
    exact hK listed a hB inv h
  | i :: r, listed, a, hfl, hB, inv, h => by
    simp only [ordHead, Bool.and_eq_true] at hB
    obtain ⟨⟨⟨hr, hf⟩, hh⟩, hB'⟩ := hB
    have hr' : i ∈ Region.ready md ops listed := by simpa using hr
    obtain ⟨_, o, ho, _⟩ := mem_ready.1 hr'
    simp only [kindAt, ho] at hh
    rw [List.filterMap_cons_some ho] at h
    have hst : qOp P ops C i (wpQuiet P ops C L (r.filterMap (ops[·]?))) a := by unfold qOp; simp only [ho]; exact h
    obtain ⟨v, hy, hk⟩ := yieldsIn_of_qOp ho hst
    rw [show (i :: r).length + n = (r.length + n) + 1 by simp only [List.length_cons]; omega]
    have hnext := wpAnyM_head hsel hQ hC hK r _ _ (fun j hj => hfl j (List.mem_cons_of_mem _ hj)) hB' (inv.set hr') hk
    rcases hfl i List.mem_cons_self with hp | hp
    · simp only [kindAt, ho] at hp
      exact wpAnyM_first (C' := fun _ => True) ho hsel hQ (fun _ _ _ _ _ _ _ _ _ _ => trivial) _ listed a w inv (Region.free_spec ho hf) hr' (plain_all hp hC (yieldsIf_of hh hy)) trivial hnext
    · exact wpAnyM_first (C' := C) ho hsel hQ (fun l1 i1 u1 j hj hne w w' hw hc => hc (hp l1 i1 u1 j hj hne) hw) _ listed a w inv (Region.free_spec ho hf) hr' (yieldsIf_of hh hy) hC hnext
/-- No way out but the end. -/
def Ends (Q : Exit → Act → World → Prop) : Exit → Act → World → Prop := Exit.then (fun a w => Q .normal a w) (fun _ _ _ => False)
theorem ends_le (Q : Exit → Act → World → Prop) : ∀ x a w, Ends Q x a w → Q x a w := by
  intro x a w h
  cases x <;> first | exact h | exact h.elim
theorem wpOp_le {Q' : Exit → Act → World → Prop} (hQ : ∀ x a w, Q' x a w → Q x a w) {i : Nat} {K : Act → World → Prop} {a : Act} {w : World} (hh : wpOp P ops Q' i K a w) : wpOp P ops Q i K a w := by
  unfold wpOp at *
  split
  · rename_i ho; simp only [ho] at hh; exact hh
  · rename_i o ho
    simp only [ho] at hh
    split
    · rename_i hw
      simp only [hw, if_true] at hh
      have hl : LetsOut Q' → LetsOut Q := fun ⟨a, w, h⟩ => ⟨a, w, hQ _ _ _ h⟩
      refine hh.imp (fun hk => ?_) (fun hk => ⟨hk.1, hl hk.2⟩)
      unfold Oper.wp at *
      generalize (execOp a.eval o).run P w = r at *
      cases r with
      | ok n w' =>
        cases n <;> simp only [Oper.upon] at hk ⊢ <;> first
          | exact hk
          | exact Calls.mono hk (fun e w'' he => by cases e <;> first | exact he | exact hQ _ _ _ he | exact hl he)
      | halt x w' => cases x <;> simp only [Oper.upon] at hk ⊢ <;> exact hQ _ _ _ hk
    · rename_i hw; simp only [hw] at hh; exact hh
theorem wpAny_le {Q' : Exit → Act → World → Prop} (hQ : ∀ x a w, Q' x a w → Q x a w) : ∀ (fuel : Nat) (listed : Array Bool) (a : Act) (w : World), wpAny P md ops Q' fuel listed a w → wpAny P md ops Q fuel listed a w
  | 0, _, _, _, h => ⟨h.1, hQ _ _ _ h.2⟩
  | f + 1, _, _, _, h => ⟨fun h0 => hQ _ _ _ (h.1 h0), fun i hi => wpOp_mono (fun a' w' h' => wpAny_le hQ f _ a' w' h') (wpOp_le hQ (h.2 i hi))⟩
def ordB (md : Region.Mode) (ops : Array Oper) (hd t1 t2 : List Nat) : Bool :=
  Region.noSelect ops && decide (hd.length + (t1.length + t2.length) = ops.size) && ordHead md ops (fun l => ordTail md ops (t1 ++ t2) l) hd (Array.replicate ops.size false) &&
  t2.all (fun t => !(hd.contains t || t1.contains t)) &&
  (List.range ops.size).all (fun j => (hd.contains j || t1.contains j) || hd.all fun i => kindAt ops plainOp i || waitsT md ops ops.size j i)
/-- The reads hd first, in whatever world holds S; then t1, S shown anew behind each; then the rest (t2), in its one order. -/
theorem wp_region_mix {S : World → Prop} {id : Nat} {a : Act} {w : World} {l : List Oper} (hd t1 t2 : List Nat) (hm : P.follows .mixedOrders = true) (hB : ordB .any l.toArray hd t1 t2 = true) (hS : S w.drew)
    (h : wpQuiet P l.toArray (fun w' => ∃ x : In S, w' = x.w) (fun a' => wpParts P l.toArray (Ends Q) (fun w' => ∃ x : In S, w' = x.w) t2 t1 a' w.drew) (hd.filterMap (l.toArray[·]?)) a) : (Code.region id l.toArray true).wp P Q a w := by
  simp only [ordB, Bool.and_eq_true, decide_eq_true_eq] at hB
  obtain ⟨⟨⟨⟨h1, h2⟩, h3⟩, h5⟩, h6⟩ := hB
  refine wp_region_any hm (wpAny_le (ends_le Q) _ _ _ _ ?_)
  refine wpAny_of_mix (flag := fun j => hd.contains j || t1.contains j) (C := fun w' => ∃ x : In S, w' = x.w) _ _ _ _ ?_
  rw [← h2]
  refine wpAnyM_head (Region.noSelect_spec h1) (fun _ _ _ _ _ h => h) ⟨⟨_, hS⟩, rfl⟩ (fun listed a hk _ hl => ?_) hd _ _ (fun i hi => ?_) (by rw [h2]; exact h3) (fun j oj _ hl => (by rw [getD_replicate_false] at hl; cases hl)) h
  · refine wpAnyM_parts t1 t2 listed a _ hk (fun t ht => ?_) hl
    have := List.all_eq_true.1 h5 t ht
    simpa using this
  · cases hp : kindAt l.toArray plainOp i with
    | true => exact .inl rfl
    | false =>
      refine .inr fun listed inv hun j hj hne => ?_
      obtain ⟨_, oj, hoj, hall⟩ := mem_ready.1 hj
      have h7 := List.all_eq_true.1 h6 j (List.mem_range.2 (Array.getElem?_eq_some_iff.1 hoj).1)
      simp only [Bool.or_eq_true] at h7
      rcases h7 with h7 | h7
      · simpa using h7
      · have h9 := List.all_eq_true.1 h7 i hi
        rw [hp, Bool.false_or] at h9
        have h8 := waitsT_listed inv _ j (fun o ho e he hb => by
          have : o = oj := Option.some.inj (ho.symm.trans hoj)
          subst this
          exact hall e he hb) h9
        rw [getD_both hun] at h8
        cases h8
/-- The reads hd first, in whatever world keeps the cells; then what makes memory (t1), then the rest (t2), in its one order. -/
theorem wp_region_ord {id : Nat} {a : Act} {w : World} {l : List Oper} (hd t1 t2 : List Nat) (hm : P.follows .mixedOrders = true) (hB : ordB .any l.toArray hd t1 t2 = true) (hG : t1.all (kindAt l.toArray (growsOp P)) = true)
    (h : wpQuiet P l.toArray (fun w' => ∃ x : In (Ext w.drew), w' = x.w) (fun a' => wpList P l.toArray (Ends Q) ((t1 ++ t2).filterMap (l.toArray[·]?)) a' w.drew) (hd.filterMap (l.toArray[·]?)) a) : (Code.region id l.toArray true).wp P Q a w := by
  refine wp_region_mix (S := Ext w.drew) hd t1 t2 hm hB (Ext.refl _) ?_
  refine wpQuiet_mono (fun a' ha => ?_) _ _ h
  exact wpParts_grow (w0 := w.drew) (fun w' hw' => ⟨⟨w', hw'⟩, rfl⟩) t1 a' _ (fun t ht => List.all_eq_true.1 hG t ht) (Ext.refl _) ha
end
end Go.Proofs.YtpjkbamkaicoiaaDoor.U
end

section
/- A region that draws its order: heads that read, then parts in one order, then the rest in whatever order is picked. -/
set_option linter.unusedVariables false
set_option linter.unusedSimpArgs false
namespace Go.Proofs.YtpjkbamkaicoiaaDoor.U
open Go.RowKit
section
variable {P : Program} {md : Region.Mode} {ops : Array Oper} {Q : Exit → Act → World → Prop} {flag : Nat → Bool} {C : World → Prop}
/-- One operation of such a region by itself. -/
theorem wpOp_step {K : Act → World → Prop} {i : Nat} {o : Oper} {a : Act} {w : World} (ho : ops[i]? = some o)
    (h : wpList P ops (Exit.then K (fun _ _ _ => False)) [o] a w) : wpOp P ops (Ends Q) i K a w := by
  have h1 : wpOp P ops (Ends (Exit.then K (Ends Q))) i K a w := by
    unfold wpOp
    simp only [ho]
    exact h
  have h2 := wpOp_le (ends_le _) h1
  unfold wpOp at *
  simp only [ho] at *
  split
  · rename_i hw
    simp only [hw, if_true] at h1
    rcases h1 with h1 | ⟨_, _, _, h1⟩
    · refine .inl ?_
      unfold Oper.wp at *
      generalize (execOp a.eval o).run P w = x at *
      cases x with
      | ok n w' =>
        cases n <;> simp only [Oper.upon] at h1 ⊢ <;> first
          | exact h1
          | exact Calls.mono h1 (fun e w'' he => by cases e <;> first | exact he | exact he.elim | exact (let ⟨_, _, h⟩ := he; h.elim))
      | halt x w' => cases x <;> simp only [Oper.upon] at h1 ⊢ <;> exact h1.elim
    · exact h1.elim
  · rename_i hw; simp only [hw] at h1; exact h1
end
end Go.Proofs.YtpjkbamkaicoiaaDoor.U
end

section
/- A region that draws its order: three at once; what looks at no world is walked as soon as it may come. -/
set_option linter.unusedVariables false
set_option linter.unusedSimpArgs false
namespace Go.Proofs.YtpjkbamkaicoiaaDoor.U
open Go.RowKit
section
variable {P : Program} {md : Region.Mode} {ops : Array Oper} {Q : Exit → Act → World → Prop} {flag : Nat → Bool} {C : World → Prop}
def pureOp : Op → Bool
  | .move _ | .assign _ | .extract _ _ => true
  | _ => false
end
end Go.Proofs.YtpjkbamkaicoiaaDoor.U
end
