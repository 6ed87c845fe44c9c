/- Operations in any order: what does not hang on another may come ahead of it. -/
import Derived.Test.YtakfoidmabendaaDoorEvL
set_option linter.unusedVariables false
set_option linter.unusedSimpArgs false
namespace Go.Proofs.YtakfoidmabendaaDoor.E

def Evt.name : Evt → Nat
  | .rd n _ | .wr n _ | .look n | .kill n => n
def clash : Evt → Evt → Bool
  | .rd n o, .wr m p | .wr n o, .rd m p | .wr n o, .wr m p => Nat.beq n m && Nat.beq o p
  | .kill n, e | e, .kill n => Nat.beq n e.name
  | _, _ => false

def evalT (l : List Value) : Operand → Value
  | .tmp t => getT l t
  | .const v => v
  | .global g => .pointer (some ⟨g, 0, none⟩)
  | .func f => .func (.func f) #[] #[]
def putT (l : List Value) (dst : Option Tmp) (v : Value) : List Value := match dst with
  | some d => l.set d v
  | none => l
/-! values worked out -/
def boolK {β : Type} (b : Bool) (k : Bool → β) : β := match b with
  | true => k true
  | false => k false
def intK {β : Type} (n : Int) (k : Int → β) : β := match n with
  | .ofNat m => natK m fun m => k (.ofNat m)
  | .negSucc m => natK m fun m => k (.negSucc m)
def bytesK {β : Type} : List UInt8 → (List UInt8 → β) → β
  | [], k => k []
  | b :: l, k => natK b.toNat fun m => bytesK l fun l => k (UInt8.ofNat m :: l)
def addrK {β : Type} (a : Option Addr) (k : Option Addr → β) : β := match a with
  | none => k none
  | some ⟨n, o, none⟩ => natK n fun n => natK o fun o => k (some ⟨n, o, none⟩)
  | some a => k (some a)
def elemsK {β : Type} (f : Value → (Value → β) → β) : List Value → (List Value → β) → β
  | [], k => k []
  | v :: l, k => f v fun v => elemsK f l fun l => k (v :: l)
def valK {β : Type} (deep : Bool) : Nat → Value → (Value → β) → β
  | 0, v, k => k v
  | d + 1, v, k => match v with
    | .bool b => boolK b fun b => k (.bool b)
    | .int t n => intK n fun n => k (.int t n)
    | .string s => match deep with
      | true => bytesK s.data.toList fun l => k (.string ⟨l.toArray⟩)
      | false => k (.string s)
    | .pointer a => addrK a fun a => k (.pointer a)
    | .slice a l c => addrK a fun a => natK l fun l => natK c fun c => k (.slice a l c)
    | .agg cs => elemsK (valK deep d) cs.toList fun l => k (.agg l.toArray)
    | .tuple cs => elemsK (valK deep d) cs.toList fun l => k (.tuple l.toArray)
    | v => k v
theorem boolK_eq {β : Type} (b : Bool) (k : Bool → β) : boolK b k = k b := by cases b <;> rfl
theorem intK_eq {β : Type} (n : Int) (k : Int → β) : intK n k = k n := by cases n <;> simp [intK, natK_eq]
theorem bytesK_eq {β : Type} : ∀ (l : List UInt8) (k : List UInt8 → β), bytesK l k = k l := by
  intro l
  induction l with
  | nil => intro k; rfl
  | cons b l ih => intro k; simp [bytesK, natK_eq, ih]
theorem addrK_eq {β : Type} (a : Option Addr) (k : Option Addr → β) : addrK a k = k a := by
  unfold addrK
  split
  · rfl
  · simp [natK_eq]
  · rfl
theorem elemsK_eq {β : Type} {f : Value → (Value → β) → β} (hf : ∀ v k, f v k = k v) : ∀ (l : List Value) (k : List Value → β), elemsK f l k = k l := by
  intro l
  induction l with
  | nil => intro k; rfl
  | cons b l ih => intro k; simp [elemsK, hf, ih]
theorem valK_eq {β : Type} (deep : Bool) : ∀ (d : Nat) (v : Value) (k : Value → β), valK deep d v k = k v := by
  intro d
  induction d with
  | zero => intros; rfl
  | succ d ih =>
    intro v k
    unfold valK
    split
    · rw [boolK_eq]
    · rw [intK_eq]
    · split
      · rw [bytesK_eq]
      · rfl
    · rw [addrK_eq]
    · rw [addrK_eq, natK_eq, natK_eq]
    · rw [elemsK_eq ih]
    · rw [elemsK_eq ih]
    · rfl
def heavy : Op → Bool
  | .binOp .. | .unOp .. | .convert .. | .slice .. | .index .. | .call { callee := .builtin _, .. } => true
  | _ => false
def heavyAt (ops : Array Oper) (i : Nat) : Bool := match ops[i]? with
  | some o => heavy o.op
  | none => false
def putE0 (l : List Value) (dst : Option Tmp) (v : Value) : Ev (List Value) := fun H s => match dst with
  | some d => setK l d v fun l' => some ⟨l', H, s, [], []⟩
  | none => some ⟨l, H, s, [], []⟩
def putE (st deep : Bool) (l : List Value) (dst : Option Tmp) (v : Value) : Ev (List Value) := fun H s => match st with
  | true => valK deep 6 v fun v => putE0 l dst v H s
  | false => putE0 l dst v H s
theorem putE_eq (st deep : Bool) (l : List Value) (dst : Option Tmp) (v : Value) : putE st deep l dst v = Ev.pure (putT l dst v) := by
  funext H s
  have h0 : putE0 l dst v H s = Ev.pure (putT l dst v) H s := by
    cases dst with
    | none => rfl
    | some d => simp only [putE0, setK_eq]; rfl
  cases st with
  | true => simp only [putE, valK_eq]; exact h0
  | false => exact h0

def wantedE (ops : Array Oper) (o : Oper) (t : List Value) : Ev Bool := match o.guard with
  | none => .pure true
  | some (j, want) => match (ops[j]?).bind (·.dst) with
    | some d => match t[d]? with
      | some (.bool b) => ask.bind fun
        | .bit u => (need (b = u)).bind fun _ => .pure (u == want)
        | _ => .pure (b == want)
      | _ => .pure false
    | none => .pure false
theorem framed_wantedE (ops : Array Oper) (o : Oper) (t : List Value) : Framed (wantedE ops o t) := by
  unfold wantedE
  split
  · exact framed_pure _
  · split
    · split
      · refine framed_bind framed_ask fun x => ?_
        split
        · exact framed_bind (framed_need _) fun _ => framed_pure _
        · exact framed_pure _
      · exact framed_pure _
    · exact framed_pure _

section
variable (P : Program) (callF : FuncId → Array Value → Ev Value)

def opC0 (o : Oper) (ρ : Operand → Value) : Ev Value := (opE P ρ o).bind fun
  | .val v => .pure v
  | .enter f args => callF f args
def opC (st : Bool) (o : Oper) (ρ : Operand → Value) : Ev Value := match st with
  | true => (opQ P ρ o).bind fun
    | .val v => .pure v
    | .enter f args => callF f args
  | false => opC0 P callF o ρ
theorem opC_eq (st : Bool) (o : Oper) (ρ : Operand → Value) : opC P callF st o ρ = opC0 P callF o ρ := by
  cases st with
  | true => simp only [opC, opQ_eq]; rfl
  | false => rfl
variable (st : Bool)
def stepVal (ops : Array Oper) (i : Nat) (t : List Value) : Ev Value := match ops[i]? with
  | none => .pure undef
  | some o => (wantedE ops o t).bind fun b => match b with
    | true => opC P callF st o (evalT t)
    | false => .pure undef
end
def dstOf (ops : Array Oper) (i : Nat) : Option Tmp := (ops[i]?).bind (·.dst)

section
variable {P : Program} {st : Bool} {callF : FuncId → Array Value → Ev Value} (hcall : ∀ f a, Framed (callF f a))
include hcall
theorem framed_opC (o : Oper) (ρ : Operand → Value) : Framed (opC P callF st o ρ) := by
  rw [opC_eq]
  refine framed_bind (framed_opE _ _ _) fun n => ?_
  split
  · exact framed_pure _
  · exact hcall _ _
theorem framed_stepVal (ops : Array Oper) (i : Nat) (t : List Value) : Framed (stepVal P callF st ops i t) := by
  unfold stepVal
  split
  · exact framed_pure _
  · refine framed_bind (framed_wantedE _ _ _) fun b => ?_
    split
    · exact framed_opC hcall _ _
    · exact framed_pure _
end

/-! ### temporaries -/
theorem evalT_put {t : List Value} {dst : Option Tmp} {v : Value} {x : Operand} (h : ∀ d, dst = some d → x ≠ .tmp d) : evalT (putT t dst v) x = evalT t x := by
  cases dst with
  | none => rfl
  | some d =>
    cases x with
    | tmp u =>
      have hne : d ≠ u := fun e => h d rfl (e ▸ rfl)
      simp [evalT, getT_eq, putT, List.getD, List.getElem?_set_ne hne]
    | _ => rfl
theorem putT_comm (t : List Value) {x y : Option Tmp} (v u : Value) (h : ∀ d, x = some d → y ≠ some d) : putT (putT t x v) y u = putT (putT t y u) x v := by
  cases x with
  | none => rfl
  | some d => cases y with
    | none => rfl
    | some e =>
      have hne : d ≠ e := fun he => h d rfl (he ▸ rfl)
      simp only [putT]
      exact List.set_comm v u hne
theorem stepVal_put {P : Program} {callF : FuncId → Array Value → Ev Value} {st : Bool} {ops : Array Oper} {j : Nat} {t : List Value} {dst : Option Tmp} {v : Value}
    (h : ∀ o, ops[j]? = some o → ∀ d, dst = some d → d ∉ o.looksAt ops) : stepVal P callF st ops j (putT t dst v) = stepVal P callF st ops j t := by
  unfold stepVal
  split
  · rfl
  · rename_i o ho
    have h := h o ho
    have hw : wantedE ops o (putT t dst v) = wantedE ops o t := by
      unfold wantedE
      split
      · rfl
      · rename_i g want hg
        split
        · rename_i d hd
          have : (putT t dst v)[d]? = t[d]? := by
            cases dst with
            | none => rfl
            | some d' =>
              have hne : d' ≠ d := fun e => h d' rfl (by subst e; simp [Oper.looksAt, hg, hd])
              simp [putT, List.getElem?_set_ne hne]
          rw [this]
        · rfl
    have ho : opC P callF st o (evalT (putT t dst v)) = opC P callF st o (evalT t) := by
      rw [opC_eq, opC_eq]
      unfold opC0
      rw [opE_congr o fun x hx => evalT_put fun d hd hxd => h d hd (by
        subst hxd
        exact List.mem_append_left _ (List.mem_filterMap.2 ⟨.tmp d, by simpa using hx, rfl⟩))]
    rw [hw, ho]

/-! ### one behind the other -/
structure Ent where
  i : Nat
  s : Sup
  s' : Sup
  log : List Evt
  need : List Prop
  v : Value

def Seq (P : Program) (callF : FuncId → Array Value → Ev Value) (st : Bool) (ops : Array Oper) : List Ent → List Value → Tr → List Value → Tr → Prop
  | [], t, H, t', H' => t' = t ∧ H' = H
  | e :: c, t, H, t', H' => ∃ H₁, stepVal P callF st ops e.i t H e.s = some ⟨e.v, H₁, e.s', e.log, e.need⟩ ∧ Seq P callF st ops c (putT t (dstOf ops e.i) e.v) H₁ t' H'

def Eqv (H K : Tr) : Prop := ∀ n, H.get n = K.get n
def Lacks (e : Ent) (H : Tr) : Prop := ∀ n, Fs e.s.name e.s'.name n → H.get n = none
def Dis (x y : Ent) : Prop := ∀ n, Fs x.s.name x.s'.name n → ¬ Fs y.s.name y.s'.name n
structure Ind (ops : Array Oper) (x y : Ent) : Prop where
  ap : ∀ o o', ops[x.i]? = some o → ops[y.i]? = some o' → o.apart ops o' = true
  cl : ∀ ev ∈ x.log, ∀ ev' ∈ y.log, clash ev ev' = false
  fx : ∀ ev ∈ y.log, ¬ Fs x.s.name x.s'.name ev.name
  fy : ∀ ev ∈ x.log, ¬ Fs y.s.name y.s'.name ev.name

section
variable {P : Program} {callF : FuncId → Array Value → Ev Value} {st : Bool} {ops : Array Oper}

theorem framed_like {α : Type} {e : Ev α} (hf : Framed e) {H K : Tr} {s : Sup} {r : Res α} (h : e H s = some r) (hl : ∀ n, Fs s.name r.sup.name n → H.get n = none) (hE : Eqv H K) :
    ∃ K', e K s = some { r with hp := K' } ∧ Eqv r.hp K' := by
  obtain ⟨hm, g⟩ := hf H s r h
  obtain ⟨c, k⟩ := g hl
  obtain ⟨K', e', c', lk⟩ := k K (fun ev _ => by
    cases ev with
    | rd n o => exact cell_of_get (hE n) o
    | wr n o => exact cell_of_get (hE n) o
    | look n => exact inf_of_get (hE n)
    | kill n => exact hE n) fun n hn => by rw [← hE n]; exact hl n hn
  refine ⟨K', e', fun n => get_ext (fun o => ?_) ?_⟩
  · by_cases hx : Wr r.log n o ∨ Fs s.name r.sup.name n
    · exact (lk.cell n o hx).symm
    · rw [not_or] at hx
      rw [c.cell n o hx.1 hx.2, c'.cell n o hx.1 hx.2, cell_of_get (hE n)]
  · by_cases hx : Kl r.log n ∨ Fs s.name r.sup.name n
    · exact (lk.inf n hx).symm
    · rw [not_or] at hx
      rw [c.inf n hx.1 hx.2, c'.inf n hx.1 hx.2, inf_of_get (hE n)]

theorem chg_of {α : Type} {e : Ev α} (hf : Framed e) {H : Tr} {s : Sup} {r : Res α} (h : e H s = some r) (hl : ∀ n, Fs s.name r.sup.name n → H.get n = none) : Chg H r.hp s.name r.sup.name r.log :=
  ((hf H s r h).2 hl).1

theorem seq_like (hcall : ∀ f a, Framed (callF f a)) : ∀ (c : List Ent) (t : List Value) (H K : Tr) (t' : List Value) (H' : Tr), Seq P callF st ops c t H t' H' → (∀ e ∈ c, Lacks e H) → c.Pairwise Dis → Eqv H K →
    ∃ K', Seq P callF st ops c t K t' K' ∧ Eqv H' K' := by
  intro c
  induction c with
  | nil => rintro t H K t' H' ⟨rfl, rfl⟩ _ _ hE; exact ⟨K, ⟨rfl, rfl⟩, hE⟩
  | cons e c ih =>
    rintro t H K t' H' ⟨H₁, h₁, h₂⟩ hl hd hE
    have hfr := framed_stepVal (P := P) (st := st) hcall ops e.i t
    obtain ⟨K₁, k₁, hE₁⟩ := framed_like hfr h₁ (hl e (by simp)) hE
    have hc := chg_of hfr h₁ (hl e (by simp))
    obtain ⟨K', k₂, hE'⟩ := ih _ _ K₁ _ _ h₂ (fun x hx n hn => hc.none n (fun q => (List.pairwise_cons.1 hd).1 x hx n q hn) (hl x (by simp [hx]) n hn)) (List.pairwise_cons.1 hd).2 hE₁
    exact ⟨K', ⟨K₁, k₁, k₂⟩, hE'⟩

theorem clash_wr {l m : List Evt} (h : ∀ ev ∈ l, ∀ ev' ∈ m, clash ev ev' = false) {n o : Nat} : ∀ ev ∈ m, (ev = .rd n o ∨ ev = .wr n o) → ¬ Wr l n o := by
  intro ev hev he hw
  rcases hw with hw | hw <;> rcases he with rfl | rfl
  · have := h _ hw _ hev; simp [clash] at this
  · have := h _ hw _ hev; simp [clash] at this
  · have := h _ hw _ hev; simp [clash, Evt.name] at this
  · have := h _ hw _ hev; simp [clash, Evt.name] at this
theorem clash_symm (a b : Evt) : clash a b = clash b a := by
  cases a <;> cases b <;> simp only [clash, Evt.name] <;> (try rw [Bool.eq_iff_iff]) <;> simp [Bool.and_eq_true, Nat.beq_eq_true_eq] <;> (try constructor) <;> (try (rintro ⟨rfl, rfl⟩; exact ⟨rfl, rfl⟩)) <;> (try (rintro rfl; rfl)) <;> (try exact eq_comm)

/-- What two that do not clash leave: the one's memory agrees with what was, in what the other looks at. -/
theorem ag_ind {H H₁ : Tr} {a b : Nat} {lx ly : List Evt} (hc : Chg H H₁ a b lx) (cl : ∀ ev ∈ lx, ∀ ev' ∈ ly, clash ev ev' = false) (fx : ∀ ev ∈ ly, ¬ Fs a b ev.name) : ∀ ev ∈ ly, Ag H₁ H ev := by
  intro ev hev
  have hf := fx ev hev
  cases ev with
  | rd n o => exact hc.cell n o (clash_wr cl _ hev (.inl rfl)) hf
  | wr n o => exact hc.cell n o (clash_wr cl _ hev (.inr rfl)) hf
  | look n => exact hc.inf n (fun hk => by have := cl _ hk _ hev; simp [clash, Evt.name] at this) hf
  | kill n =>
    refine get_ext (fun o => hc.cell n o (fun hw => ?_) hf) (hc.inf n (fun hk => by have := cl _ hk _ hev; simp [clash, Evt.name] at this) hf)
    rcases hw with hw | hw
    · have := cl _ hw _ hev; simp [clash, Evt.name] at this
    · have := cl _ hw _ hev; simp [clash, Evt.name] at this

theorem swap (hcall : ∀ f a, Framed (callF f a)) {x e : Ent} {t : List Value} {H H₁ H₂ : Tr} (hI : Ind ops x e) (hD : Dis x e) (hlx : Lacks x H) (hle : Lacks e H)
    (h₁ : stepVal P callF st ops x.i t H x.s = some ⟨x.v, H₁, x.s', x.log, x.need⟩)
    (h₂ : stepVal P callF st ops e.i (putT t (dstOf ops x.i) x.v) H₁ e.s = some ⟨e.v, H₂, e.s', e.log, e.need⟩) :
    ∃ K₁ K₂, stepVal P callF st ops e.i t H e.s = some ⟨e.v, K₁, e.s', e.log, e.need⟩ ∧ stepVal P callF st ops x.i (putT t (dstOf ops e.i) e.v) K₁ x.s = some ⟨x.v, K₂, x.s', x.log, x.need⟩ ∧ Eqv H₂ K₂ ∧
      putT (putT t (dstOf ops x.i) x.v) (dstOf ops e.i) e.v = putT (putT t (dstOf ops e.i) e.v) (dstOf ops x.i) x.v := by
  have looks : (∀ o, ops[e.i]? = some o → ∀ d, dstOf ops x.i = some d → d ∉ o.looksAt ops) ∧ (∀ o, ops[x.i]? = some o → ∀ d, dstOf ops e.i = some d → d ∉ o.looksAt ops) ∧ (∀ d, dstOf ops x.i = some d → dstOf ops e.i ≠ some d) := by
    unfold dstOf
    cases hx : ops[x.i]? with
    | none =>
      refine ⟨?_, ?_, ?_⟩
      · intro o _ d hd; cases hd
      · intro o ho; cases ho
      · intro d hd; cases hd
    | some ox =>
      cases he : ops[e.i]? with
      | none =>
        refine ⟨?_, ?_, ?_⟩
        · intro o ho; cases ho
        · intro o _ d hd; cases hd
        · intro d _ hd; cases hd
      | some oe =>
        obtain ⟨a1, a2, a3⟩ := Oper.apart_spec (hI.ap ox oe hx he)
        refine ⟨?_, ?_, ?_⟩
        · intro o ho d hd; cases ho; exact a1 d hd
        · intro o ho d hd; cases ho; exact a3 d hd
        · intro d hd; exact a2 d hd
  obtain ⟨l1, l2, l3⟩ := looks
  have fx := framed_stepVal (P := P) (st := st) hcall ops x.i t
  have fe := framed_stepVal (P := P) (st := st) hcall ops e.i t
  rw [stepVal_put l1] at h₂
  have cx := chg_of fx h₁ hlx
  have hle₁ : Lacks e H₁ := fun n hn => cx.none n (fun q => hD n q hn) (hle n hn)
  obtain ⟨_, g⟩ := fe _ _ _ h₂
  obtain ⟨ce, k⟩ := g hle₁
  obtain ⟨K₁, e1, ce', le⟩ := k H (ag_ind cx hI.cl hI.fx) hle
  simp only at e1 ce ce' le
  obtain ⟨_, g'⟩ := fx _ _ _ h₁
  obtain ⟨_, k'⟩ := g' hlx
  have hlx₁ : Lacks x K₁ := fun n hn => ce'.none n (fun q => hD n hn q) (hlx n hn)
  obtain ⟨K₂, e2, cx', lx⟩ := k' K₁ (fun ev hev => by
    have := ag_ind ce' (fun a ha b hb => by rw [clash_symm]; exact hI.cl b hb a ha) hI.fy ev hev
    cases ev with
    | rd n o => exact this.symm
    | wr n o => exact this.symm
    | look n => exact this.symm
    | kill n => exact this.symm) hlx₁
  simp only at e2 cx' lx
  have wx : ∀ n o, Wr e.log n o → ¬ Wr x.log n o := fun n o h1 h2 => by
    rcases h1 with h1 | h1 <;> rcases h2 with h2 | h2 <;> (have := hI.cl _ h2 _ h1; simp [clash, Evt.name] at this)
  have kx : ∀ n, Kl e.log n → ¬ Kl x.log n := fun n h1 h2 => by have := hI.cl _ h2 _ h1; simp [clash, Evt.name] at this
  have nmW : ∀ {l : List Evt} {n o : Nat}, Wr l n o → ∃ ev ∈ l, ev.name = n := fun h => by
    rcases h with h | h <;> exact ⟨_, h, rfl⟩
  refine ⟨K₁, K₂, e1, by rw [stepVal_put l2]; exact e2, fun n => get_ext (fun o => ?_) ?_, putT_comm _ _ _ l3⟩
  · by_cases he : Wr e.log n o ∨ Fs e.s.name e.s'.name n
    · have n1 : ¬ Wr x.log n o := by
        rcases he with he | he
        · exact wx n o he
        · intro hw; obtain ⟨ev, hev, rfl⟩ := nmW hw; exact hI.fy ev hev he
      have n2 : ¬ Fs x.s.name x.s'.name n := by
        rcases he with he | he
        · intro hf; obtain ⟨ev, hev, rfl⟩ := nmW he; exact hI.fx ev hev hf
        · exact fun hf => hD n hf he
      rw [cx'.cell n o n1 n2, le.cell n o he]
    · rw [not_or] at he
      by_cases hx : Wr x.log n o ∨ Fs x.s.name x.s'.name n
      · rw [ce.cell n o he.1 he.2, lx.cell n o hx]
      · rw [not_or] at hx
        rw [ce.cell n o he.1 he.2, cx.cell n o hx.1 hx.2, cx'.cell n o hx.1 hx.2, ce'.cell n o he.1 he.2]
  · by_cases he : Kl e.log n ∨ Fs e.s.name e.s'.name n
    · have n1 : ¬ Kl x.log n := by
        rcases he with he | he
        · exact kx n he
        · intro hw; exact hI.fy _ hw he
      have n2 : ¬ Fs x.s.name x.s'.name n := by
        rcases he with he | he
        · intro hf; exact hI.fx _ he hf
        · exact fun hf => hD n hf he
      rw [cx'.inf n n1 n2, le.inf n he]
    · rw [not_or] at he
      by_cases hx : Kl x.log n ∨ Fs x.s.name x.s'.name n
      · rw [ce.inf n he.1 he.2, lx.inf n hx]
      · rw [not_or] at hx
        rw [ce.inf n he.1 he.2, cx.inf n hx.1 hx.2, cx'.inf n hx.1 hx.2, ce'.inf n he.1 he.2]

theorem seq_front (hcall : ∀ f a, Framed (callF f a)) : ∀ (c₁ : List Ent) (e : Ent) (c₂ : List Ent) (t : List Value) (H : Tr) (t' : List Value) (H' : Tr), Seq P callF st ops (c₁ ++ e :: c₂) t H t' H' →
    (∀ x ∈ c₁ ++ e :: c₂, Lacks x H) → (c₁ ++ e :: c₂).Pairwise Dis → (∀ x ∈ c₁, Ind ops x e) → ∃ H'', Seq P callF st ops (e :: (c₁ ++ c₂)) t H t' H'' ∧ Eqv H' H'' := by
  intro c₁
  induction c₁ with
  | nil => intro e c₂ t H t' H' h _ _ _; exact ⟨H', h, fun _ => rfl⟩
  | cons x c₁ ih =>
    rintro e c₂ t H t' H' ⟨H₁, h₁, h₂⟩ hl hd hI
    have hd' := List.pairwise_cons.1 hd
    have hc := chg_of (framed_stepVal (P := P) (st := st) hcall ops x.i t) h₁ (hl x (by simp))
    have hl₁ : ∀ y ∈ c₁ ++ e :: c₂, Lacks y H₁ := fun y hy n hn => hc.none n (fun q => hd'.1 y hy n q hn) (hl y (by simp only [List.cons_append, List.mem_cons]; exact .inr hy) n hn)
    obtain ⟨H₃, ⟨H₂, g₁, g₂⟩, hE⟩ := ih e c₂ _ _ _ _ h₂ hl₁ hd'.2 fun y hy => hI y (by simp [hy])
    obtain ⟨K₁, K₂, k₁, k₂, hE₂, ht⟩ := swap hcall (hI x (by simp)) (hd'.1 e (by simp)) (hl x (by simp)) (hl e (by simp)) h₁ g₁
    rw [ht] at g₂
    have hsub : ∀ y ∈ c₁ ++ c₂, y ∈ c₁ ++ e :: c₂ := fun y hy => by simp at hy ⊢; rcases hy with hy | hy <;> simp [hy]
    have hce := chg_of (framed_stepVal (P := P) (st := st) hcall ops e.i _) g₁ (hl₁ e (by simp))
    have hpe : ∀ y ∈ c₁ ++ c₂, Dis e y ∧ Dis y e := by
      intro y hy
      have hp : (c₁ ++ e :: c₂).Pairwise Dis := hd'.2
      rw [List.pairwise_append] at hp
      obtain ⟨p1, p2, p3⟩ := hp
      simp at hy
      rcases hy with hy | hy
      · have := p3 y hy e (by simp)
        exact ⟨fun n a b => this n b a, this⟩
      · have := (List.pairwise_cons.1 p2).1 y hy
        exact ⟨this, fun n a b => this n b a⟩
    have hl₂ : ∀ y ∈ c₁ ++ c₂, Lacks y H₂ := fun y hy n hn => hce.none n (fun q => (hpe y hy).1 n q hn) (hl₁ y (hsub y hy) n hn)
    have hdp : (c₁ ++ c₂).Pairwise Dis := hd'.2.sublist (List.Sublist.append (List.Sublist.refl _) (List.sublist_cons_self _ _))
    obtain ⟨H₄, g₃, hE₃⟩ := seq_like hcall _ _ _ K₂ _ _ g₂ hl₂ hdp hE₂
    exact ⟨H₄, ⟨K₁, k₁, K₂, k₂, g₃⟩, fun n => (hE n).trans (hE₃ n)⟩
end
end Go.Proofs.YtakfoidmabendaaDoor.E
