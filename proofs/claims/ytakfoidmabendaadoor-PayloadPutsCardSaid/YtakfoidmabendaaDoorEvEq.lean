/- Structs compared: what is of texts and numbers is held against each other, without parting ways. -/
import Derived.Test.YtakfoidmabendaaDoorEvJ
import Derived.Laws.StructEq
set_option linter.unusedVariables false
set_option linter.unusedSimpArgs false
namespace Go.Proofs.YtakfoidmabendaaDoor.E
def partV (P : Program) (t : TypeId) (cs : Array Value) (off : Nat) : Option Value :=
  match P.underlying t, P.info? t with
  | some d, some i => match isAggD d with
    | true => some (.agg (cs.extract off (off + i.size)))
    | false => cs[off]?
  | _, _ => none
def eqFs (P : Program) (eq : TypeId → Value → Value → Option Bool) (xs ys : Array Value) : List Field → Option Bool
  | [] => some true
  | f :: l => match f.name == "_" with
    | true => eqFs P eq xs ys l
    | false => match partV P f.type xs f.offset, partV P f.type ys f.offset with
      | some a, some b => match eq f.type a b, eqFs P eq xs ys l with
        | some p, some q => some (p && q)
        | _, _ => none
      | _, _ => none
def eqVal (P : Program) : Nat → TypeId → Value → Value → Option Bool
  | 0, _, _, _ => none
  | d + 1, t, x, y => match P.underlying t, x, y with
    | some .bool, .bool a, .bool b => some (a == b)
    | some (.int _), .int k a, .int k' b => if k = k' then some (a == b) else none
    | some .string, .string a, .string b => some (a.toList == b.toList)
    | some (.struct fs), .agg xs, .agg ys => match P.stoodInHeld t with
      | true => none
      | false => eqFs P (eqVal P d) xs ys fs.toList
    | _, _, _ => none
def eqAgg (P : Program) (t : TypeId) (xs ys : Array Value) : Option Bool := match P.eqGuardType P.depth t with
  | true => none
  | false => eqVal P 10000 t (.agg xs) (.agg ys)
section
variable {P : Program} {Fr : Prot} {G : Nat} {σ : Nm}
theorem partV_rel {t : TypeId} {cs ds : Array Value} {off : Nat} {v : Value} (h : partV P t cs off = some v) (hr : AR σ cs ds) : ∃ r, (∀ w, (part t ds off).run P w = .ok r w) ∧ VR σ v r := by
  unfold partV at h
  split at h <;> try (cases h; done)
  rename_i d i hd hi
  split at h
  · rename_i ha
    simp only [Option.some.injEq] at h; subst h
    have hx := hr.extract off (off + i.size)
    exact ⟨.agg (ds.extract off (off + i.size)), fun w => by simp [part, Sem.run_bind, run_isAgg hd, ha, run_sizeOf hi, pure, Sem.run], .agg hx.1 hx.2⟩
  · rename_i ha
    obtain ⟨r, hr, hvr⟩ := hr.get h
    exact ⟨r, fun w => by simp [part, Sem.run_bind, run_isAgg hd, ha, hr, pure, Sem.run], hvr⟩
theorem eqVal_run : ∀ (d : Nat) (t : TypeId) (x y x' y' : Value) (b : Bool), eqVal P d t x y = some b → VR σ x x' → VR σ y y' → ∀ w, (Op.equalIn d t x' y').run P w = .ok b w := by
  intro d
  induction d with
  | zero => intro t x y x' y' b h; simp [eqVal] at h
  | succ d ih =>
    intro t x y x' y' b h hx hy w
    unfold eqVal at h
    split at h <;> try (cases h; done)
    · rename_i a c hu
      simp only [Option.some.injEq] at h; subst h
      cases hx; cases hy
      exact run_equalIn_bool' w d t a c hu
    · rename_i k0 k a k' c hu
      split at h <;> try (cases h; done)
      rename_i hk
      subst hk
      simp only [Option.some.injEq] at h; subst h
      cases hx; cases hy
      exact run_equalIn_int w d t k k0 a c hu
    · rename_i a c hu
      simp only [Option.some.injEq] at h; subst h
      cases hx; cases hy
      exact run_equalIn_string w d t a c hu
    · rename_i fs xs ys hu
      split at h <;> try (cases h; done)
      rename_i hs
      cases hx with
      | agg h1 h2 =>
        cases hy with
        | agg h3 h4 =>
          rename_i xs' ys'
          have hf : P.fieldsOf t = fs := by simp [Program.fieldsOf, hu]
          rw [run_equalIn_struct w d t xs' ys' (by rw [hf]; exact hu) hs, hf]
          have key : ∀ (l : List Field) (b : Bool), eqFs P (eqVal P d) xs ys l = some b → (Op.eqFields d xs' ys' l).run P w = .ok b w := by
            intro l
            induction l with
            | nil => intro b h; simp [eqFs] at h; subst h; simp [Op.eqFields, Sem.run_pure]
            | cons f l ihl =>
              intro b h
              unfold eqFs at h
              split at h
              · rename_i hn
                have hn : f.name = "_" := by simpa using hn
                simp only [Op.eqFields, hn]
                exact ihl b h
              · rename_i hn
                have hn : f.name ≠ "_" := by simpa using hn
                split at h <;> try (cases h; done)
                rename_i u v hu' hv'
                split at h <;> try (cases h; done)
                rename_i p q hp hq
                simp only [Option.some.injEq] at h; subst h
                obtain ⟨ru, r1, r2⟩ := partV_rel (σ := σ) hu' ⟨h1, h2⟩
                obtain ⟨rv, r3, r4⟩ := partV_rel (σ := σ) hv' ⟨h3, h4⟩
                have r5 := ih f.type u v ru rv p hp r2 r4 w
                have r6 := ihl q hq
                simp only [Op.eqFields, if_pos hn, Sem.run_bind, r1, r3, r5, Result.andThen_ok]
                cases p with
                | true => simpa using r6
                | false => simp [Sem.run_pure]
          exact key fs.toList b h
theorem run_eqAgg {neg : Bool} {op : BinOp} (hop : (op = .eql ∧ neg = false) ∨ (op = .neq ∧ neg = true)) {t : TypeId} {ox oy : Operand} {xs ys : Array Value} {x' y' : Value} {b : Bool} (h : eqAgg P t xs ys = some b) (hx : VR σ (.agg xs) x') (hy : VR σ (.agg ys) y') (w : World) :
    (do eqGuard op t ox oy x' y'; binOp op t x' y' : Sem Value).run P w = .ok (.bool (cond neg (!b) b)) w := by
  unfold eqAgg at h
  split at h <;> try (cases h; done)
  rename_i hg
  have hr := eqVal_run 10000 t _ _ x' y' b h hx hy w
  cases hx with
  | agg h1 h2 =>
    cases hy with
    | agg h3 h4 =>
      rename_i xs' ys'
      rw [Sem.run_bind, run_eqGuard_agg w op t ox oy xs' ys' hg]
      simp only [Result.andThen_ok]
      rcases hop with ⟨rfl, rfl⟩ | ⟨rfl, rfl⟩
      · rw [run_eql_struct, hr]; rfl
      · rw [run_neq_struct, hr]; rfl
end
end Go.Proofs.YtakfoidmabendaaDoor.E
