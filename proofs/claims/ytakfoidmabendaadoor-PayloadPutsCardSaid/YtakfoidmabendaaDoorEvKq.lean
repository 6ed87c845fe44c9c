/- One operation, quickly: where it is of numbers, truths, texts. -/
import Derived.Test.YtakfoidmabendaaDoorEvK
import Derived.Lib.Strings
set_option linter.unusedVariables false
set_option linter.unusedSimpArgs false
namespace Go.Proofs.YtakfoidmabendaaDoor.E

def kindNo : IntKind → Nat
  | .i8 => 0 | .i16 => 1 | .i32 => 2 | .i64 => 3 | .u8 => 4 | .u16 => 5 | .u32 => 6 | .u64 => 7
theorem kindNo_inj {a b : IntKind} (h : Nat.beq (kindNo a) (kindNo b) = true) : a = b := by cases a <;> cases b <;> first | rfl | cases h
def wrapQ (k : IntKind) (n : Int) : Int := match k, n with
  | .i64, .ofNat m => match Nat.blt m 9223372036854775808 with
    | true => .ofNat m
    | false => IntKind.wrap .i64 (.ofNat m)
  | .u8, .ofNat m => .ofNat (m % 256)
  | .u32, .ofNat m => .ofNat (m % 4294967296)
  | k, n => k.wrap n
theorem wrapQ_eq (k : IntKind) (n : Int) : wrapQ k n = k.wrap n := by
  unfold wrapQ
  split
  · rename_i m
    split
    · rename_i h
      have h : m < 9223372036854775808 := by simpa [Nat.blt_eq] using h
      unfold IntKind.wrap
      simp [IntKind.bits, IntKind.signed]
      have e : ((m : Int) % 18446744073709551616) = m := by omega
      rw [e, if_neg (by omega)]
    · rfl
  · simp [IntKind.wrap, IntKind.bits, IntKind.signed]
  · simp [IntKind.wrap, IntKind.bits, IntKind.signed]
  · rfl
def listEq : List UInt8 → List UInt8 → Bool
  | [], [] => true
  | a :: l, b :: m => match Nat.beq a.toNat b.toNat with
    | true => listEq l m
    | false => false
  | _, _ => false
theorem listEq_eq : ∀ l m : List UInt8, listEq l m = (l == m) := by
  intro l
  induction l with
  | nil => intro m; cases m <;> rfl
  | cons a l ih =>
    intro m
    cases m with
    | nil => rfl
    | cons b m =>
      unfold listEq
      rw [ih]
      cases h : Nat.beq a.toNat b.toNat with
      | true =>
        have : a = b := UInt8.toNat_inj.1 (Nat.eq_of_beq_eq_true h)
        subst this; simp
      | false =>
        have : a ≠ b := fun e => by subst e; rw [Nat.beq_refl] at h; cases h
        simp [this]
def getT : List Value → Nat → Value
  | [], _ => undef
  | v :: l, n => match n with
    | 0 => v
    | m + 1 => getT l m
theorem getT_eq : ∀ (l : List Value) (n : Nat), getT l n = l.getD n undef := by
  intro l
  induction l with
  | nil => intro n; simp [getT]
  | cons v l ih => intro n; cases n <;> simp [getT, ih]
def byteAt : List UInt8 → Nat → Option UInt8
  | [], _ => none
  | b :: l, n => match n with
    | 0 => some b
    | m + 1 => byteAt l m
theorem byteAt_eq : ∀ (l : List UInt8) (n : Nat), byteAt l n = l[n]? := by
  intro l
  induction l with
  | nil => intro n; simp [byteAt]
  | cons v l ih => intro n; cases n <;> simp [byteAt, ih]

def quickInt (op : BinOp) (k : IntKind) (a b : Int) : Option Value := match op with
  | .add => some (.int k (wrapQ k (a + b)))
  | .sub => some (.int k (wrapQ k (a - b)))
  | .mul => some (.int k (wrapQ k (a * b)))
  | .eql => some (.bool (a == b))
  | .neq => some (.bool (a != b))
  | .lss => some (.bool (decide (a < b)))
  | .leq => some (.bool (decide (a ≤ b)))
  | .gtr => some (.bool (decide (a > b)))
  | .geq => some (.bool (decide (a ≥ b)))
  | _ => none
def quickBin (op : BinOp) (x y : Value) : Option Value := match x, y with
  | .int k a, .int k' b => match Nat.beq (kindNo k) (kindNo k') with
    | true => quickInt op k a b
    | false => none
  | .string a, .string b => match op with
    | .eql => some (.bool (listEq a.data.toList b.data.toList))
    | .neq => some (.bool (!listEq a.data.toList b.data.toList))
    | .add => match Nat.ble (a.size + b.size) 1048576 with
      | true => some (.string ⟨(a.data.toList ++ b.data.toList).toArray⟩)
      | false => none
    | _ => none
  | _, _ => none
def quick (P : Program) (ρ : Operand → Value) (op : Op) : Option Value := match op with
  | .move x => some (ρ x)
  | .assign x => some (ρ x)
  | .binOp op _ x y _ => quickBin op (ρ x) (ρ y)
  | .unOp .not _ x => match ρ x with
    | .bool b => some (.bool (!b))
    | _ => none
  | .nilCheck x => match ρ x with
    | .pointer (some a) => some (.pointer (some a))
    | _ => none
  | .extract t i => match ρ t with
    | .tuple vs => vs.toList[i]?
    | _ => none
  | .index t x i => match ρ x, ρ i with
    | .string s, .int _ (.ofNat n) => match P.underlying t with
      | some .string => match byteAt s.data.toList n with
        | some b => some (.int .u8 (.ofNat b.toNat))
        | none => none
      | _ => none
    | _, _ => none
  | .convert s d x => match ρ x with
    | .int _ n => match P.underlying s, P.underlying d with
      | some _, some (.int k) => some (.int k (wrapQ k n))
      | _, _ => none
    | _ => none
  | _ => none

theorem plainOp_val {P : Program} {ρ : Operand → Value} {o : Oper} {v : Value} (hs : isSelect o.op = false) (hp : o.op.operands.toList.all (fun x => plain 6 (ρ x)) = true)
    (hr : runPlain P (execOp ρ o) = some (.value v)) (hv : plain 6 v = true) (H : Tr) (nm : Nat) : plainOp P ρ o H ⟨nm, []⟩ = some ⟨.val v, H, ⟨nm, []⟩, [], []⟩ := by
  simp [plainOp, hs, hp, plainE, Ev.bind, ask, hr, plainNext, hv, Ev.pure]

theorem ba_toList (a : ByteArray) : a.toList = a.data.toList := Go.Lib.toList_data a
theorem quickBin_spec {P : Program} {ρ : Operand → Value} {dst : Option Tmp} {op : BinOp} {t : TypeId} {x y : Operand} {yt ty : TypeId} {pos : String} {after : Array Edge} {g : Option (Nat × Bool)} {v : Value}
    (h : quickBin op (ρ x) (ρ y) = some v) (H : Tr) (nm : Nat) : opE P ρ ⟨dst, .binOp op t x y yt, ty, pos, after, g⟩ H ⟨nm, []⟩ = some ⟨.val v, H, ⟨nm, []⟩, [], []⟩ := by
  have fin : ∀ v, nilV (ρ x) (ρ y) = none → plain 6 (ρ x) = true → plain 6 (ρ y) = true → runPlain P (execOp ρ ⟨dst, .binOp op t x y yt, ty, pos, after, g⟩) = some (.value v) → plain 6 v = true → (∀ cs, ρ x ≠ .agg cs) →
      opE P ρ ⟨dst, .binOp op t x y yt, ty, pos, after, g⟩ H ⟨nm, []⟩ = some ⟨.val v, H, ⟨nm, []⟩, [], []⟩ := by
    intro v h1 h2 h3 h4 h5 h6
    unfold opE
    simp only [h1]
    have hp : plainOp P ρ ⟨dst, .binOp op t x y yt, ty, pos, after, g⟩ H ⟨nm, []⟩ = some ⟨.val v, H, ⟨nm, []⟩, [], []⟩ :=
      plainOp_val rfl (by simp [Op.operands, h2, h3]) h4 h5 H nm
    have hb : binO P ρ ⟨dst, .binOp op t x y yt, ty, pos, after, g⟩ op t (ρ x) (ρ y) H ⟨nm, []⟩ = some ⟨.val v, H, ⟨nm, []⟩, [], []⟩ := by
      have hor : binO P ρ ⟨dst, .binOp op t x y yt, ty, pos, after, g⟩ op t (ρ x) (ρ y) = plainOp P ρ ⟨dst, .binOp op t x y yt, ty, pos, after, g⟩ ∨
          ∃ a b, binO P ρ ⟨dst, .binOp op t x y yt, ty, pos, after, g⟩ op t (ρ x) (ρ y) = catE a b (execOp ρ ⟨dst, .binOp op t x y yt, ty, pos, after, g⟩) P := by
        unfold binO
        split
        · rename_i e _; exact absurd e (h6 _)
        · rename_i e _; exact absurd e (h6 _)
        · exact .inr ⟨_, _, rfl⟩
        · exact .inl rfl
      rcases hor with e | ⟨a, b, e⟩
      · rw [e]; exact hp
      · rw [e]; simp [catE, Ev.bind, ask, h4, plainNext, h5, Ev.pure]
    cases op <;> exact hb
  unfold quickBin at h
  split at h
  · rename_i k a k' b hx hy
    split at h <;> try (cases h; done)
    rename_i hk
    have hk := kindNo_inj hk
    subst hk
    refine fin v (by rw [hx, hy]; rfl) (by rw [hx]; rfl) (by rw [hy]; rfl) ?_ ?_ (fun cs h => by rw [hx] at h; cases h)
    · cases op <;> simp only [quickInt, Option.some.injEq] at h <;> first | (cases h; done) | (subst h; simp only [execOp, hx, hy]; first | rfl | (rw [wrapQ_eq]; simp [eqGuard, binOp, Op.intArith, Op.intCmp, runPlain, bind, Sem.bind, pure]) | simp [eqGuard, binOp, Op.intArith, Op.intCmp, runPlain, bind, Sem.bind, pure])
    · cases op <;> simp only [quickInt, Option.some.injEq] at h <;> first | (cases h; done) | (subst h; rfl)
  · rename_i a b hx hy
    refine fin v (by rw [hx, hy]; rfl) (by rw [hx]; rfl) (by rw [hy]; rfl) ?_ ?_ (fun cs h => by rw [hx] at h; cases h)
    · split at h <;> try (cases h; done)
      · simp only [Option.some.injEq] at h; subst h
        simp [execOp, hx, hy, eqGuard, binOp, Op.stringOp, runPlain, bind, Sem.bind, pure, ba_toList, listEq_eq]
      · simp only [Option.some.injEq] at h; subst h
        simp [execOp, hx, hy, eqGuard, binOp, Op.stringOp, runPlain, bind, Sem.bind, pure, ba_toList, listEq_eq]
      · split at h <;> try (cases h; done)
        rename_i hb
        simp only [Nat.ble_eq] at hb
        simp only [Option.some.injEq] at h; subst h
        have e : (⟨(a.data.toList ++ b.data.toList).toArray⟩ : ByteArray) = a ++ b := by
          apply ByteArray.ext
          apply Array.ext'
          simp
        rw [e]
        have h2 : ¬ (((a.size + b.size : Nat) : Int) > IntKind.i64.max) := by simp [IntKind.max, IntKind.bits, IntKind.signed]; omega
        simp [execOp, hx, hy, eqGuard, binOp, Op.stringOp, runPlain, bind, Sem.bind, pure, -gt_iff_lt]
        rw [if_neg (by omega)]
        rfl
    · split at h <;> try (cases h; done)
      · simp only [Option.some.injEq] at h; subst h; rfl
      · simp only [Option.some.injEq] at h; subst h; rfl
      · split at h <;> try (cases h; done)
        simp only [Option.some.injEq] at h; subst h; rfl
  · cases h
theorem quick_spec {P : Program} {ρ : Operand → Value} {dst : Option Tmp} {op : Op} {ty : TypeId} {pos : String} {after : Array Edge} {g : Option (Nat × Bool)} {v : Value}
    (h : quick P ρ op = some v) (H : Tr) (nm : Nat) : opE P ρ ⟨dst, op, ty, pos, after, g⟩ H ⟨nm, []⟩ = some ⟨.val v, H, ⟨nm, []⟩, [], []⟩ := by
  unfold quick at h
  split at h
  · simp only [Option.some.injEq] at h; subst h; rfl
  · simp only [Option.some.injEq] at h; subst h; rfl
  · exact quickBin_spec h H nm
  · rename_i t x
    split at h <;> try (cases h; done)
    rename_i b hx
    simp only [Option.some.injEq] at h; subst h
    refine plainOp_val (o := ⟨dst, .unOp .not t x, ty, pos, after, g⟩) rfl (by simp [Op.operands, hx, plain]) ?_ rfl H nm
    simp only [execOp, hx]
    rfl
  · rename_i x
    split at h <;> try (cases h; done)
    rename_i a hx
    simp only [Option.some.injEq] at h; subst h
    simp only [opE, hx]
    rfl
  · rename_i t i
    split at h <;> try (cases h; done)
    rename_i vs hx
    have h : vs[i]? = some v := by simpa using h
    simp only [opE, extractE, hx, h]
    rfl
  · rename_i t x i
    split at h <;> try (cases h; done)
    rename_i s k n hx hi
    split at h <;> try (cases h; done)
    rename_i hu
    split at h <;> try (cases h; done)
    rename_i b hb
    simp only [Option.some.injEq] at h; subst h
    rw [byteAt_eq] at hb
    have hlt : n < s.data.toList.length := by
      rcases Nat.lt_or_ge n s.data.toList.length with h | h
      · exact h
      · simp [List.getElem?_eq_none h] at hb
    have hb' : s[n]? = some b := by
      have : s[n]? = s.data.toList[n]? := by
        have hs : n < s.size := hlt
        have hd : n < s.data.size := hlt
        rw [getElem?_pos s n hs, Array.getElem?_toList, getElem?_pos s.data n hd]
        rfl
      rw [this]; exact hb
    simp only [opE, hx]
    refine plainOp_val (o := ⟨dst, .index t x i, ty, pos, after, g⟩) rfl (by simp [Op.operands, hx, hi, plain]) ?_ rfl H nm
    simp only [execOp, hx, hi, Instr.index, asIntOf, bind, Sem.bind, pure, underlying, program, hu, runPlain]
    have : (0 : Int) ≤ Int.ofNat n := Int.natCast_nonneg n
    simp [hb', runPlain, Sem.bind]
  · rename_i s d x
    split at h <;> try (cases h; done)
    rename_i kk n hx
    split at h <;> try (cases h; done)
    rename_i u k hs hd
    simp only [Option.some.injEq] at h; subst h
    simp only [opE, hx]
    refine plainOp_val (o := ⟨dst, .convert s d x, ty, pos, after, g⟩) rfl (by simp [Op.operands, hx, plain]) ?_ rfl H nm
    simp only [execOp, hx, convert, bind, Sem.bind, pure, underlying, program, hs, hd, runPlain]
    rw [wrapQ_eq]
    rfl
  · cases h

def opQ (P : Program) (ρ : Operand → Value) (o : Oper) : Ev NR := fun H s => match quick P ρ o.op, s with
  | some v, ⟨n, []⟩ => some ⟨.val v, H, ⟨n, []⟩, [], []⟩
  | _, s => opE P ρ o H s
theorem opQ_eq (P : Program) (ρ : Operand → Value) (o : Oper) : opQ P ρ o = opE P ρ o := by
  funext H s
  unfold opQ
  split
  · rename_i v n h
    exact (quick_spec (dst := o.dst) (ty := o.type) (pos := o.pos) (after := o.after) (g := o.guard) h H n).symm
  · rfl
end Go.Proofs.YtakfoidmabendaaDoor.E
