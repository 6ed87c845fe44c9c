/- One operation: what the machine does, the model does. -/
import Derived.Test.YtakfoidmabendaaDoorEvKq
set_option linter.unusedVariables false
set_option linter.unusedSimpArgs false
namespace Go.Proofs.YtakfoidmabendaaDoor.E
section
variable {P : Program} {Fr : Prot} {G : Nat} {σ : Nm}

theorem sim_valE {e : Ev Value} {S : Sem Value} (h : Sim P Fr G σ e VR (runS P S)) : Sim P Fr G σ (valE e) NRel (runS P (do pure (.value (← S)))) :=
  sim_map (f := NR.val) (g := Next.value) h fun _ _ _ _ x => x
theorem sim_plainOp {ρ ρ' : Operand → Value} {o : Oper} (h : ∀ x ∈ o.op.operands, VR σ (ρ x) (ρ' x)) : Sim P Fr G σ (plainOp P ρ o) NRel (runS P (execOp ρ' o)) := by
  unfold plainOp
  cases hb : (!isSelect o.op && o.op.operands.toList.all (fun x => plain 6 (ρ x))) with
  | false => exact sim_fail
  | true =>
    simp only [Bool.and_eq_true, Bool.not_eq_true', List.all_eq_true] at hb
    rw [← execOp_congr (ρ := ρ) (ρ' := ρ') o (fun cs b he => by rw [he] at hb; simp [isSelect] at hb) fun x hx => plain_eq 6 _ _ (hb.2 x (by simpa using hx)) (h x hx)]
    exact sim_plainE
theorem pr_map {ρ ρ' : Operand → Value} {ps : Array (Nat × Operand)} (h : ∀ x ∈ (ps.toList.map (·.2)).toArray, VR σ (ρ x) (ρ' x)) :
    PR σ (ps.toList.map fun q => (q.1, ρ q.2)).toArray.toList (ps.map fun (i, x) => (i, ρ' x)).toList := by
  refine ⟨by simp, fun i x y hx hy => ?_⟩
  simp only [Array.toList_map] at hx hy
  rw [List.getElem?_map] at hx hy
  cases hq : ps.toList[i]? with
  | none => rw [hq] at hx; cases hx
  | some q =>
    rw [hq] at hx hy
    cases hx; cases hy
    exact ⟨rfl, h q.2 (by simp only [List.mem_toArray, List.mem_map]; exact ⟨q, List.mem_of_getElem? hq, rfl⟩)⟩
theorem ar_map {ρ ρ' : Operand → Value} {a : Array Operand} (h : ∀ x ∈ a, VR σ (ρ x) (ρ' x)) : AR σ (a.map ρ) (a.map ρ') := by
  refine ⟨by simp, fun i x y hx hy => ?_⟩
  rw [Array.getElem?_map] at hx hy
  cases hq : a[i]? with
  | none => rw [hq] at hx; cases hx
  | some q =>
    rw [hq] at hx hy
    cases hx; cases hy
    exact h q (Array.mem_of_getElem? hq)
theorem AR.append {a b c d : Array Value} (h : AR σ a b) (k : AR σ c d) : AR σ (a ++ c) (b ++ d) := by
  refine ⟨by simp [h.1, k.1], fun i x y hx hy => ?_⟩
  rw [← Array.getElem?_toList, Array.toList_append] at hx hy
  have := (h.list.append k.list).2 i x y hx hy
  exact this

theorem sim_fieldE {t : TypeId} {x y : Value} {k : Nat} (h : VR σ x y) : Sim P Fr G σ (fieldE P t x k) VR (runS P (Instr.field t y k)) := by
  unfold fieldE
  split <;> try exact sim_fail
  rename_i fields cs hu
  split <;> try exact sim_fail
  rename_i f hf
  cases h with
  | agg h1 h2 =>
    unfold Instr.field
    refine sim_q (Go.run_underlying hu) ?_
    simp only [hf]
    exact sim_partE ⟨h1, h2⟩
theorem sim_indexE {t : TypeId} {x y ix iy : Value} (h : VR σ x y) (hi : VR σ ix iy) : Sim P Fr G σ (indexE P t x ix) VR (runS P (Instr.index t y iy)) := by
  unfold indexE
  split <;> try exact sim_fail
  rename_i len elem cs k i hu
  split <;> try exact sim_fail
  rename_i j hj
  split <;> try exact sim_fail
  rename_i hb
  cases hi
  cases h with
  | agg h1 h2 =>
    unfold Instr.index
    refine sim_q (d := (k, i)) (fun w => rfl) ?_
    refine sim_q (Go.run_underlying hu) ?_
    simp only [hb, and_self, if_true]
    refine sim_q (run_sizeOf hj) ?_
    exact sim_partE ⟨h1, h2⟩

theorem sim_opE {ρ ρ' : Operand → Value} {o : Oper} (h : ∀ x ∈ o.op.operands, VR σ (ρ x) (ρ' x)) : Sim P Fr G σ (opE P ρ o) NRel (runS P (execOp ρ' o)) := by
  have hpl := sim_plainOp (P := P) (Fr := Fr) (G := G) h
  obtain ⟨dst, op, type, pos, after, guard⟩ := o
  unfold opE
  cases op <;> simp only [Op.operands] at h <;> simp only
  case move x => exact sim_run (d := .value (ρ' x)) (fun w => rfl) (h x (by simp))
  case assign x => exact sim_run (d := .value (ρ' x)) (fun w => rfl) (h x (by simp))
  case pick c a b =>
    have hc := h c (by simp)
    have ha := h a (by simp)
    have hb := h b (by simp)
    unfold pickE
    split <;> try exact sim_fail
    rename_i t ht
    rw [ht] at hc
    generalize hq : ρ' c = q at hc
    cases hc
    have hrun : ∀ w, (execOp ρ' ⟨dst, .pick c a b, type, pos, after, guard⟩).run P w = .ok (.value (cond t (ρ' a) (ρ' b))) w := by
      intro w
      simp only [execOp, hq]
      cases t <;> rfl
    refine sim_ask fun x => ?_
    split
    · rename_i u
      refine sim_need fun hn => ?_
      subst hn
      exact sim_run (d := .value (cond t (ρ' a) (ρ' b))) hrun (by cases t <;> first | exact hb | exact ha)
    · exact sim_run (d := .value (cond t (ρ' a) (ρ' b))) hrun (by cases t <;> first | exact hb | exact ha)
  case alloc t =>
    unfold allocE
    split <;> try exact sim_fail
    rename_i i hi
    split <;> try exact sim_fail
    rename_i z hz
    cases hp : plain 6 z with
    | false => exact sim_fail
    | true =>
      refine sim_valE ?_
      unfold Instr.alloc
      refine sim_q (run_zero hi hz) ?_
      exact sim_newE (plain_refl 6 z hp)
  case box t x => exact sim_valE (sim_newE (h x (by simp)))
  case build t ps => exact sim_valE (sim_buildE (pr_map h))
  case buildSlice t n ps => exact sim_valE (sim_buildSliceE (pr_map h))
  case load t a =>
    have ha := h a (by simp)
    unfold loadO
    split <;> try exact sim_fail
    rename_i n o ht
    rw [ht] at ha
    generalize hq : ρ' a = q at ha
    simp only [execOp, hq]
    cases ha with
    | ptr hσ =>
      refine sim_valE ?_
      unfold Instr.loadAt
      exact sim_loadE hσ
  case store t a x =>
    have ha := h a (by simp)
    have hx := h x (by simp)
    unfold storeO
    split <;> try exact sim_fail
    rename_i n o ht
    rw [ht] at ha
    generalize hq : ρ' a = q at ha
    simp only [execOp, hq]
    cases ha with
    | ptr hσ =>
      refine sim_map (A := fun _ _ _ => True) (g := fun _ => Next.skip) ?_ (fun _ _ _ _ _ => rfl)
      unfold Instr.storeAt
      exact sim_storeE hσ hx
  case nilCheck x =>
    have hx := h x (by simp)
    split
    · rename_i a ht
      rw [ht] at hx
      generalize hq : ρ' x = q at hx
      cases hx with
      | ptr hσ => exact sim_run (d := .value _) (fun w => by simp only [execOp, hq]; rfl) (.ptr hσ)
    · rename_i f a c ht
      rw [ht] at hx
      generalize hq : ρ' x = q at hx
      cases hx with
      | func f h1 h2 h3 h4 => exact sim_run (d := .value _) (fun w => by simp only [execOp, hq]; rfl) (.func _ h1 h2 h3 h4)
    · exact hpl
  case binOp op t x y yt =>
    split
    · exact sim_valE (sim_eqE (.inl ⟨rfl, rfl⟩) (h x (by simp)) (h y (by simp)))
    · exact sim_valE (sim_eqE (.inr ⟨rfl, rfl⟩) (h x (by simp)) (h y (by simp)))
    · have hx := h x (by simp)
      have hy := h y (by simp)
      unfold binO
      split
      · rename_i xs ys ex ey _ _
        rw [ex] at hx; rw [ey] at hy
        split
        · rename_i b hb
          exact sim_run (d := .value (.bool b)) (fun w => by simp only [execOp]; rw [Sem.run_bind, run_eqAgg (P := P) (.inl ⟨rfl, rfl⟩) hb hx hy]; rfl) (.bool _)
        · exact hpl
      · rename_i xs ys ex ey _ _
        rw [ex] at hx; rw [ey] at hy
        split
        · rename_i b hb
          exact sim_run (d := .value (.bool (!b))) (fun w => by simp only [execOp]; rw [Sem.run_bind, run_eqAgg (P := P) (.inr ⟨rfl, rfl⟩) hb hx hy]; rfl) (.bool _)
        · exact hpl
      · rename_i a b ex ey _ _
        rw [ex] at hx; rw [ey] at hy
        generalize hx' : ρ' x = x' at hx
        generalize hy' : ρ' y = y' at hy
        cases hx
        cases hy
        have hex : execOp ρ ⟨dst, .binOp .add t x y yt, type, pos, after, guard⟩ = execOp ρ' ⟨dst, .binOp .add t x y yt, type, pos, after, guard⟩ := by
          simp only [execOp, ex, ey, hx', hy']
        unfold catE
        refine sim_ask fun q => ?_
        split
        · refine sim_need fun hn => ?_
          refine sim_run (d := .value (.string (a ++ b))) (fun w => ?_) (.string _)
          simp only [execOp, hx', hy', binOp, Op.stringOp]
          rw [if_neg (by simp [IntKind.max, IntKind.bits, IntKind.signed]; omega)]
          rfl
        · rw [hex]
          split
          · rename_i n hn
            exact sim_plainNext (run_plain P _ _ hn)
          · exact sim_fail
      · exact hpl
  case slice t x lo hi mx =>
    cases mx with
    | some m => exact hpl
    | none =>
      simp only
      split
      · exact hpl
      · exact hpl
      · refine sim_valE (sim_sliceE (h x (by simp)) ?_ ?_)
        · cases lo with
          | none => trivial
          | some l => exact h l (by simp)
        · cases hi with
          | none => trivial
          | some l => exact h l (by simp)
  case fieldAddr s x f => exact sim_valE (sim_fieldAddrE (h x (by simp)))
  case field t x f => exact sim_valE (sim_fieldE (h x (by simp)))
  case indexAddr t x i => exact sim_valE (sim_indexAddrE (h x (by simp)) (h i (by simp)))
  case index t x i =>
    split
    · exact sim_valE (sim_indexE (h x (by simp)) (h i (by simp)))
    · exact hpl
  case extract t i =>
    have ht := h t (by simp)
    unfold extractE
    split <;> try exact sim_fail
    rename_i vs hq
    rw [hq] at ht
    generalize hq' : ρ' t = q at ht
    split <;> try exact sim_fail
    rename_i v hv
    cases ht with
    | tuple h1 h2 =>
      rename_i b
      obtain ⟨r, hr, hvr⟩ := AR.get ⟨h1, h2⟩ hv
      exact sim_run (d := .value r) (fun w => by simp only [execOp, hq', Instr.extract, hr]; rfl) hvr
  case convert s d x =>
    split
    · exact sim_valE (sim_convE (h x (by simp)))
    · split
      · exact sim_valE (sim_convE (h x (by simp)))
      · exact hpl
    · exact hpl
  case makeSlice t l c => exact sim_valE (sim_makeE (h l (by simp)) (h c (by simp)))
  case makeInterface t x =>
    have hx := h x (by simp)
    unfold ifaceE
    split <;> try exact sim_fail
    rename_i d hni hu
    refine sim_run (d := .value (.iface t (ρ' x))) (fun w => ?_) (.iface t hx)
    simp only [execOp, Instr.makeInterface, Sem.run_bind, Go.run_underlying hu, Result.andThen_ok]
    cases d <;> first | rfl | exact absurd rfl (hni _)
  case makeFunc fn a c =>
    have h1 := ar_map (σ := σ) (ρ := ρ) (ρ' := ρ') (a := a) fun x hx => h x (by simp [hx])
    have h2 := ar_map (σ := σ) (ρ := ρ) (ρ' := ρ') (a := c) fun x hx => h x (by simp [hx])
    exact sim_run (d := .value (.func fn (a.map ρ') (c.map ρ'))) (fun w => rfl) (.func fn h1.1 h1.2 h2.1 h2.2)
  case call c =>
    obtain ⟨callee, args, argTypes⟩ := c
    simp only [Call.operands] at h
    have hin : ∀ x ∈ args, VR σ (ρ x) (ρ' x) := fun x hx => h x (by simp [hx])
    split
    · rename_i hcal
      have hcal : callee = _ := hcal
      subst hcal
      split <;> try exact sim_fail
      rename_i t u s x ht hx
      obtain rfl : argTypes = #[t, u] := Array.ext' ht
      obtain rfl : args = #[s, x] := Array.ext' hx
      have e : execOp ρ' ⟨dst, .call ⟨.builtin .append, #[s, x], #[t, u]⟩, type, pos, after, guard⟩ = (do pure (.value (← Builtin.append_ #[t, u] type #[ρ' s, ρ' x]))) := by
        simp [execOp, resolve, invoke, builtin]
      rw [e]
      exact sim_valE (S := Builtin.append_ #[t, u] type #[ρ' s, ρ' x]) (sim_appendE (hin s (by simp)) (hin x (by simp)))
    · rename_i hcal
      have hcal : callee = _ := hcal
      subst hcal
      split <;> try exact sim_fail
      rename_i t u d s ht hx
      obtain rfl : argTypes = #[t, u] := Array.ext' ht
      obtain rfl : args = #[d, s] := Array.ext' hx
      have e : execOp ρ' ⟨dst, .call ⟨.builtin .copy, #[d, s], #[t, u]⟩, type, pos, after, guard⟩ = (do pure (.value (← Builtin.copy_ #[t, u] type #[ρ' d, ρ' s]))) := by
        simp [execOp, resolve, invoke, builtin]
      rw [e]
      exact sim_valE (S := Builtin.copy_ #[t, u] type #[ρ' d, ρ' s]) (sim_copyE (hin d (by simp)) (hin s (by simp)))
    · rename_i hcal
      have hcal : callee = _ := hcal
      subst hcal
      split <;> try exact sim_fail
      rename_i t x ht hx
      obtain rfl : argTypes = #[t] := Array.ext' ht
      obtain rfl : args = #[x] := Array.ext' hx
      split
      · have e : execOp ρ' ⟨dst, .call ⟨.builtin .len, #[x], #[t]⟩, type, pos, after, guard⟩ = (do pure (.value (← Builtin.len_ #[t] type #[ρ' x]))) := by
          simp [execOp, resolve, invoke, builtin]
        rw [e]
        exact sim_valE (S := Builtin.len_ #[t] type #[ρ' x]) (sim_lenE (hin x (by simp)))
      · exact hpl
    · rename_i f hf
      have hf : callee = _ := hf
      subst hf
      have hfn := h f (by simp)
      split
      · rename_i g first captured hg
        cases hc : callable P g with
        | false => exact hpl
        | true =>
          rw [hg] at hfn
          generalize hq : ρ' f = q at hfn
          cases hfn with
          | func _ h1 h2 h3 h4 =>
            rename_i b d
            have har := ((AR.append (σ := σ) ⟨h1, h2⟩ (ar_map (σ := σ) hin)).append ⟨h3, h4⟩)
            refine sim_run (d := .enter g (b ++ args.map ρ' ++ d)) (fun w => ?_) ⟨rfl, har⟩
            simp only [execOp, resolve, hq, Deferred.ofValue, invoke, callFunc]
            unfold callable at hc
            cases hfg : P.funcs[g]? with
            | none => simp [hfg] at hc
            | some fn =>
              simp only [hfg, Bool.and_eq_true, Bool.not_eq_true'] at hc
              have n1 : ¬ fn.name = "runtime.NumGoroutine" := by simpa using hc.1
              have n2 : ¬ fn.body = none := fun e => by rw [e] at hc; simp at hc
              simp [program, Sem.run, bind, Sem.bind, pure, hfg, n1, n2, Sem.run_bind']
      · exact hpl
    · exact hpl
  all_goals exact hpl
end
end Go.Proofs.YtakfoidmabendaaDoor.E
