/- One operation: the machine's and the model's. -/
import Derived.Test.YtakfoidmabendaaDoorEvEq
set_option linter.unusedVariables false
set_option linter.unusedSimpArgs false
namespace Go.Proofs.YtakfoidmabendaaDoor.E

def valE (e : Ev Value) : Ev NR := e.bind fun v => .pure (.val v)
def isSelect : Op → Bool
  | .select _ _ => true
  | _ => false
def plainOp (P : Program) (ρ : Operand → Value) (o : Oper) : Ev NR :=
  match !isSelect o.op && o.op.operands.toList.all (fun x => plain 6 (ρ x)) with
  | true => plainE P (execOp ρ o)
  | false => .fail
/-- Texts put together: where their lengths are not known, it is to be shown that they may be. -/
def catE (a b : ByteArray) (S : Sem Next) (P : Program) : Ev NR := ask.bind fun
  | .bit _ => (need (a.size + b.size ≤ 9223372036854775807)).bind fun _ => .pure (.val (.string (a ++ b)))
  | _ => match runPlain P S with
    | some n => plainNext n
    | none => .fail
/-- Two values held against each other. -/
def binO (P : Program) (ρ : Operand → Value) (o : Oper) (op : BinOp) (t : TypeId) (x y : Value) : Ev NR := match op, x, y with
  | .eql, .agg xs, .agg ys => match eqAgg P t xs ys with
    | some b => .pure (.val (.bool b))
    | none => plainOp P ρ o
  | .neq, .agg xs, .agg ys => match eqAgg P t xs ys with
    | some b => .pure (.val (.bool (!b)))
    | none => plainOp P ρ o
  | .add, .string a, .string b => catE a b (execOp ρ o) P
  | _, _, _ => plainOp P ρ o
def pickE (c a b : Value) : Ev NR := match c with
  | .bool t => ask.bind fun
    | .bit u => (need (t = u)).bind fun _ => .pure (.val (cond u a b))
    | _ => .pure (.val (cond t a b))
  | _ => .fail
def allocE (P : Program) (t : TypeId) : Ev NR := match P.info? t with
  | some i => match i.zero with
    | some z => match plain 6 z with
      | true => valE (newE t z)
      | false => .fail
    | none => .fail
  | none => .fail
def fieldE (P : Program) (t : TypeId) (x : Value) (k : Nat) : Ev Value := match P.underlying t, x with
  | some (.struct fields), .agg cs => match fields[k]? with
    | some f => partE P f.type cs f.offset
    | none => .fail
  | _, _ => .fail
def indexE (P : Program) (t : TypeId) (x ix : Value) : Ev Value := match P.underlying t, x, ix with
  | some (.array len elem), .agg cs, .int _ i => match P.info? elem with
    | some j => if 0 ≤ i ∧ i < (len : Int) then partE P elem cs (i.toNat * j.size) else .fail
    | none => .fail
  | _, _, _ => .fail
def extractE (x : Value) (k : Nat) : Ev NR := match x with
  | .tuple vs => match vs[k]? with
    | some v => .pure (.val v)
    | none => .fail
  | _ => .fail
def ifaceE (P : Program) (t : TypeId) (x : Value) : Ev NR := match P.underlying t with
  | some (.interface _) => .fail
  | some _ => .pure (.val (.iface t x))
  | none => .fail
def callable (P : Program) (g : FuncId) : Bool := match P.funcs[g]? with
  | some fn => !(fn.name == "runtime.NumGoroutine") && !fn.body.isNone
  | none => false
def loadO (P : Program) (t : TypeId) (a : Value) : Ev NR := match a with
  | .pointer (some ⟨n, o, none⟩) => valE (loadE P t n o)
  | _ => .fail
def storeO (P : Program) (t : TypeId) (a x : Value) : Ev NR := match a with
  | .pointer (some ⟨n, o, none⟩) => (storeE P t n o x).bind fun _ => .pure (.val undef)
  | _ => .fail

def opE (P : Program) (ρ : Operand → Value) (o : Oper) : Ev NR :=
  match o.op with
  | .move x => .pure (.val (ρ x))
  | .assign x => .pure (.val (ρ x))
  | .pick c a b => pickE (ρ c) (ρ a) (ρ b)
  | .alloc t => allocE P t
  | .box t x => valE (newE t (ρ x))
  | .build t ps => valE (buildE P t (ps.toList.map fun q => (q.1, ρ q.2)).toArray)
  | .buildSlice t n ps => valE (buildSliceE P t n (ps.toList.map fun q => (q.1, ρ q.2)).toArray)
  | .load t a => loadO P t (ρ a)
  | .store t a x => storeO P t (ρ a) (ρ x)
  | .nilCheck x => match ρ x with
    | .pointer (some a) => .pure (.val (.pointer (some a)))
    | .func (.func f) a c => .pure (.val (.func (.func f) a c))
    | _ => plainOp P ρ o
  | .binOp op t x y _ => match op, nilV (ρ x) (ρ y) with
    | .eql, some _ => valE (eqE P false t (ρ x) (ρ y))
    | .neq, some _ => valE (eqE P true t (ρ x) (ρ y))
    | _, _ => binO P ρ o op t (ρ x) (ρ y)
  | .slice t x lo hi none => match ρ x with
    | .string _ => plainOp P ρ o
    | .slice none _ _ => plainOp P ρ o
    | _ => valE (sliceE P t (ρ x) (lo.map ρ) (hi.map ρ))
  | .fieldAddr s x f => valE (fieldAddrE P s (ρ x) f)
  | .field t x f => valE (fieldE P t (ρ x) f)
  | .indexAddr t x i => valE (indexAddrE P t (ρ x) (ρ i))
  | .index t x i => match ρ x with
    | .agg _ => valE (indexE P t (ρ x) (ρ i))
    | _ => plainOp P ρ o
  | .extract t i => extractE (ρ t) i
  | .convert s d x => match ρ x with
    | .slice (some _) _ _ => valE (convE P s d (ρ x))
    | .string _ => match P.underlying d with
      | some (.slice _) => valE (convE P s d (ρ x))
      | _ => plainOp P ρ o
    | _ => plainOp P ρ o
  | .makeSlice t l c => valE (makeE P t (ρ l) (ρ c))
  | .makeInterface t x => ifaceE P t (ρ x)
  | .makeFunc fn a c => .pure (.val (.func fn (a.map ρ) (c.map ρ)))
  | .call c => match c.callee with
    | .builtin .append => match c.argTypes.toList, c.args.toList with
      | [t, u], [s, x] => valE (appendE P t u (ρ s) (ρ x))
      | _, _ => .fail
    | .builtin .copy => match c.argTypes.toList, c.args.toList with
      | [t, _], [d, s] => valE (copyE P t (ρ d) (ρ s))
      | _, _ => .fail
    | .builtin .len => match c.argTypes.toList, c.args.toList with
      | [t], [x] => match ρ x with
        | .slice _ _ _ => valE (lenE P t (ρ x))
        | _ => plainOp P ρ o
      | _, _ => .fail
    | .value f => match ρ f with
      | .func (.func g) first captured => match callable P g with
        | true => .pure (.enter g (first ++ c.args.map ρ ++ captured))
        | false => plainOp P ρ o
      | _ => plainOp P ρ o
    | _ => plainOp P ρ o
  | _ => plainOp P ρ o

theorem framed_valE {e : Ev Value} (h : Framed e) : Framed (valE e) := framed_bind h fun _ => framed_pure _
theorem framed_plainOp (P : Program) (ρ : Operand → Value) (o : Oper) : Framed (plainOp P ρ o) := by
  unfold plainOp
  split
  · exact framed_plainE _ _
  · exact framed_fail
theorem framed_catE (a b : ByteArray) (S : Sem Next) (P : Program) : Framed (catE a b S P) := by
  unfold catE
  refine framed_bind framed_ask fun x => ?_
  split
  · exact framed_bind (framed_need _) fun _ => framed_pure _
  · split
    · exact framed_plainNext _
    · exact framed_fail
theorem framed_binO (P : Program) (ρ : Operand → Value) (o : Oper) (op : BinOp) (t : TypeId) (x y : Value) : Framed (binO P ρ o op t x y) := by
  unfold binO
  (repeat' split) <;> first | exact framed_pure _ | exact framed_plainOp _ _ _ | exact framed_catE _ _ _ _
theorem framed_pickE (c a b : Value) : Framed (pickE c a b) := by
  unfold pickE
  split
  · refine framed_bind framed_ask fun x => ?_
    split
    · exact framed_bind (framed_need _) fun _ => framed_pure _
    · exact framed_pure _
  · exact framed_fail
theorem framed_opE (P : Program) (ρ : Operand → Value) (o : Oper) : Framed (opE P ρ o) := by
  unfold opE
  split
  · exact framed_pure _
  · exact framed_pure _
  · exact framed_pickE _ _ _
  · unfold allocE
    (repeat' split) <;> first | exact framed_valE (framed_newE _ _) | exact framed_fail
  · exact framed_valE (framed_newE _ _)
  · exact framed_valE (framed_buildE _ _ _)
  · exact framed_valE (framed_buildSliceE _ _ _ _)
  · unfold loadO
    split
    · exact framed_valE (framed_loadE _ _ _ _)
    · exact framed_fail
  · unfold storeO
    split
    · exact framed_bind (framed_storeE _ _ _ _ _) fun _ => framed_pure _
    · exact framed_fail
  · split <;> first | exact framed_pure _ | exact framed_plainOp _ _ _
  · split <;> first | exact framed_valE (framed_eqE _ _ _ _ _) | exact framed_binO _ _ _ _ _ _ _
  · split <;> first | exact framed_plainOp _ _ _ | exact framed_valE (framed_sliceE _ _ _ _ _)
  · exact framed_valE (framed_fieldAddrE _ _ _ _)
  · refine framed_valE ?_
    unfold fieldE
    (repeat' split) <;> first | exact framed_partE _ _ _ _ | exact framed_fail
  · exact framed_valE (framed_indexAddrE _ _ _ _)
  · split
    · refine framed_valE ?_
      unfold indexE
      (repeat' split) <;> first | exact framed_partE _ _ _ _ | exact framed_fail
    · exact framed_plainOp _ _ _
  · unfold extractE
    (repeat' split) <;> first | exact framed_pure _ | exact framed_fail
  · (repeat' split) <;> first | exact framed_valE (framed_convE _ _ _ _) | exact framed_plainOp _ _ _
  · exact framed_valE (framed_makeE _ _ _ _)
  · unfold ifaceE
    (repeat' split) <;> first | exact framed_pure _ | exact framed_fail
  · exact framed_pure _
  · (repeat' split) <;> first | exact framed_valE (framed_appendE _ _ _ _ _) | exact framed_valE (framed_copyE _ _ _ _) | exact framed_valE (framed_lenE _ _ _) | exact framed_pure _ | exact framed_plainOp _ _ _ | exact framed_fail
  · exact framed_plainOp _ _ _

theorem plainOp_congr {P : Program} {ρ ρ' : Operand → Value} (o : Oper) (h : ∀ x ∈ o.op.operands, ρ x = ρ' x) : plainOp P ρ o = plainOp P ρ' o := by
  unfold plainOp
  have e1 : o.op.operands.toList.all (fun x => plain 6 (ρ x)) = o.op.operands.toList.all (fun x => plain 6 (ρ' x)) := by
    rw [Bool.eq_iff_iff, List.all_eq_true, List.all_eq_true]
    constructor <;> intro k x hx
    · rw [← h x (by simpa using hx)]; exact k x hx
    · rw [h x (by simpa using hx)]; exact k x hx
  rw [e1]
  cases hs : isSelect o.op with
  | true => simp
  | false =>
    rw [execOp_congr o (fun cs b he => by rw [he] at hs; simp [isSelect] at hs) h]
theorem opE_congr {P : Program} {ρ ρ' : Operand → Value} (o : Oper) (h : ∀ x ∈ o.op.operands, ρ x = ρ' x) : opE P ρ o = opE P ρ' o := by
  have hp := plainOp_congr (P := P) o h
  have pairs : ∀ ps : Array (Nat × Operand), (∀ x ∈ ps.toList.map (·.2), ρ x = ρ' x) → (ps.toList.map fun q => (q.1, ρ q.2)) = (ps.toList.map fun q => (q.1, ρ' q.2)) := fun ps hq =>
    List.map_congr_left fun q hm => by rw [hq q.2 (List.mem_map.2 ⟨q, hm, rfl⟩)]
  have hx : isSelect o.op = false → execOp ρ o = execOp ρ' o := fun hs => execOp_congr o (fun cs b he => by rw [he] at hs; simp [isSelect] at hs) h
  obtain ⟨dst, op, type, pos, after, guard⟩ := o
  unfold opE binO
  rw [hp]
  cases op <;> simp only [Op.operands] at h <;> simp only
  case build t ps => rw [pairs ps fun x hx => h x (by simpa using hx)]
  case buildSlice t n ps => rw [pairs ps fun x hx => h x (by simpa using hx)]
  case makeFunc fn first captured =>
    rw [Array.map_congr_left (xs := first) fun x hx => h x (by simp [hx]), Array.map_congr_left (xs := captured) fun x hx => h x (by simp [hx])]
  case binOp op t x y yt =>
    rw [hx rfl, h x (by simp), h y (by simp)]
  case slice t x lo hi mx => cases lo <;> cases hi <;> cases mx <;> simp_all
  case call c =>
    have hargs : c.args.map ρ = c.args.map ρ' := Array.map_congr_left fun x hx => h x (by simp [Call.operands, hx])
    have hin : ∀ x ∈ c.args.toList, ρ x = ρ' x := fun x hx => h x (by simp [Call.operands]; exact .inr (by simpa using hx))
    rw [hargs]
    cases hc : c.callee with
    | value f => have hf : ρ f = ρ' f := h f (by simp [Call.operands, hc]); simp only [hf]
    | invoke r m => rfl
    | builtin b =>
      cases b <;> simp only
      all_goals
        split <;> try rfl
        rename_i heq
        simp only [heq, List.mem_cons, List.not_mem_nil, or_false, forall_eq_or_imp, forall_eq] at hin
        simp only [hin]
  all_goals (first | rfl | (simp_all; done))
end Go.Proofs.YtakfoidmabendaaDoor.E
