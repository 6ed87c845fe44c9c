/- Structs and rows built; places of fields and elements; slices; what may be nil. -/
import Derived.Test.YtakfoidmabendaaDoorEvE
set_option linter.unusedVariables false
set_option linter.unusedSimpArgs false
namespace Go.Proofs.YtakfoidmabendaaDoor.E
section
variable {P : Program} {Fr : Prot} {G : Nat} {σ : Nm}

/-! ### build -/
def PR (σ : Nm) (a b : List (Nat × Value)) : Prop := a.length = b.length ∧ ∀ (i : Nat) (x y : Nat × Value), a[i]? = some x → b[i]? = some y → x.1 = y.1 ∧ VR σ x.2 y.2
theorem AR.set {a b : Array Value} (h : AR σ a b) (i : Nat) {v r : Value} (hv : VR σ v r) : AR σ (a.setIfInBounds i v) (b.setIfInBounds i r) := by
  refine ⟨by simp [h.1], fun j x y hx hy => ?_⟩
  rw [Array.getElem?_setIfInBounds] at hx hy
  by_cases e : i = j
  · rw [if_pos e] at hx hy
    by_cases hi : i < a.size
    · rw [if_pos hi] at hx; rw [if_pos (h.1 ▸ hi)] at hy
      cases hx; cases hy; exact hv
    · rw [if_neg hi] at hx; cases hx
  · rw [if_neg e] at hx hy; exact h.2 j x y hx hy
theorem fold_rel (off : Nat) : ∀ (l l' : List Value) (k : Nat) (a b : Array Value), LR σ l l' → AR σ a b →
    AR σ ((l.zipIdx k).foldl (fun cs (c, j) => cs.setIfInBounds (off + j) c) a) ((l'.zipIdx k).foldl (fun cs (c, j) => cs.setIfInBounds (off + j) c) b) := by
  intro l
  induction l with
  | nil => intro l' k a b h hab; cases l' with
    | nil => exact hab
    | cons => simp [LR] at h
  | cons v l ih => intro l' k a b h hab; cases l' with
    | nil => simp [LR] at h
    | cons r l' =>
      simp only [List.zipIdx_cons, List.foldl_cons]
      exact ih l' (k + 1) _ _ ⟨by have := h.1; simpa using this, fun i x y hx hy => h.2 (i + 1) x y (by simpa using hx) (by simpa using hy)⟩ (hab.set _ (h.2 0 v r (by simp) (by simp)))
theorem afold (off : Nat) (c : Array Value) (a : Array Value) : c.zipIdx.foldl (fun cs (x, j) => cs.setIfInBounds (off + j) x) a = (c.toList.zipIdx 0).foldl (fun cs (x, j) => cs.setIfInBounds (off + j) x) a := by
  rw [← Array.foldl_toList]; simp [Array.toList_zipIdx]
theorem fill_rel (place : Nat → Option (Nat × Nat)) : ∀ (ps qs : List (Nat × Value)) (a b c : Array Value), PR σ ps qs → AR σ a b → Instr.fill place a ps = some c →
    ∃ d, Instr.fill place b qs = some d ∧ AR σ c d := by
  intro ps
  induction ps with
  | nil => intro qs a b c hp hab h; cases qs with
    | nil => simp only [Instr.fill, Option.some.injEq] at h; subst h; exact ⟨b, rfl, hab⟩
    | cons => simp [PR] at hp
  | cons p ps ih => intro qs a b c hp hab h; cases qs with
    | nil => simp [PR] at hp
    | cons q qs =>
      obtain ⟨i, v⟩ := p
      obtain ⟨j, r⟩ := q
      obtain ⟨e, hv⟩ := hp.2 0 _ _ rfl rfl
      simp only at e hv
      subst e
      have hc := hv.cells
      have hsz : v.cells.size = r.cells.size := by simpa using hc.1
      unfold Instr.fill at h ⊢
      cases hpl : place i with
      | none => simp [hpl] at h
      | some os =>
        obtain ⟨off, size⟩ := os
        simp only [hpl] at h ⊢
        rw [← hsz, ← hab.1]
        by_cases hif : (decide (v.cells.size ≠ size) || decide (off + v.cells.size > a.size)) = true
        · rw [if_pos hif] at h; cases h
        · rw [if_neg hif] at h ⊢
          refine ih qs _ _ c ⟨by have := hp.1; simpa using this, fun k x y hx hy => hp.2 (k + 1) x y (by simpa using hx) (by simpa using hy)⟩ ?_ h
          rw [afold, afold]
          exact fold_rel off _ _ 0 _ _ hc hab

def buildE (P : Program) (t : TypeId) (parts : Array (Nat × Value)) : Ev Value :=
  match P.info? t, P.underlying t with
  | some i, some (.struct fields) => match i.zero, runPlain P (fields.mapM fun f => do pure (f.offset, ← sizeOf f.type)) with
    | some z, some pl => match z.cells.toList.all (plain 6), Instr.fill (fun k => pl[k]?) z.cells parts.toList with
      | true, some c => .pure (.agg c)
      | _, _ => .fail
    | _, _ => .fail
  | some i, some (.array _ elem) => match i.zero, P.info? elem with
    | some z, some j => match z.cells.toList.all (plain 6), Instr.fill (fun k => some (k * j.size, j.size)) z.cells parts.toList with
      | true, some c => .pure (.agg c)
      | _, _ => .fail
    | _, _ => .fail
  | _, _ => .fail
theorem framed_buildE (P : Program) (t : TypeId) (parts : Array (Nat × Value)) : Framed (buildE P t parts) := by
  unfold buildE
  (repeat' split) <;> first | exact framed_pure _ | exact framed_fail
theorem sim_buildE {t : TypeId} {ps qs : Array (Nat × Value)} (hp : PR σ ps.toList qs.toList) : Sim P Fr G σ (buildE P t ps) VR (runS P (Instr.build t qs)) := by
  unfold buildE
  split
  · rename_i i fields hi hu
    split
    · rename_i z pl hz hpl
      split
      · rename_i c hpz hc
        obtain ⟨d, hd, hcd⟩ := fill_rel _ _ _ _ _ c hp (ar_plain hpz) hc
        refine sim_run (d := .agg d) (fun w => ?_) (.agg hcd.1 hcd.2)
        have hpl' := run_plain P _ _ hpl w
        unfold Instr.build
        simp only [Sem.run_bind, run_zero hi hz, run_underlying hu, hpl', Result.andThen_ok, hd]
        rfl
      · exact sim_fail
    · exact sim_fail
  · rename_i i n elem hi hu
    split
    · rename_i z j hz hj
      split
      · rename_i c hpz hc
        obtain ⟨d, hd, hcd⟩ := fill_rel _ _ _ _ _ c hp (ar_plain hpz) hc
        refine sim_run (d := .agg d) (fun w => ?_) (.agg hcd.1 hcd.2)
        unfold Instr.build
        simp only [Sem.run_bind, run_zero hi hz, run_underlying hu, run_sizeOf hj, Result.andThen_ok, hd]
        rfl
      · exact sim_fail
    · exact sim_fail
  · exact sim_fail

def buildSliceE (P : Program) (t : TypeId) (len : Nat) (parts : Array (Nat × Value)) : Ev Value :=
  match P.underlying t with
  | some (.slice elem) => match P.info? elem with
    | some j => match j.zero with
      | some z => match Nat.ble (len * j.size) 4096 && Nat.ble len 4096 && Nat.blt 0 (len * j.size) && z.cells.toList.all (plain 6),
          Instr.fill (fun i => some (i * j.size, j.size)) ((Array.range (len * j.size)).map (z.cells[· % z.cells.size]!)) parts.toList with
        | true, some c => (new ⟨c.toList, elem, false, false⟩).bind fun n => .pure (.slice (some ⟨n, 0, none⟩) len len)
        | _, _ => .fail
      | none => .fail
    | none => .fail
  | _ => .fail
theorem framed_buildSliceE (P : Program) (t : TypeId) (len : Nat) (parts : Array (Nat × Value)) : Framed (buildSliceE P t len parts) := by
  unfold buildSliceE
  (repeat' split) <;> first | exact framed_bind (framed_new _) fun _ => framed_pure _ | exact framed_fail
theorem ar_cycle {z : Array Value} (h : z.toList.all (plain 6) = true) (n : Nat) : AR σ ((Array.range n).map (z[· % z.size]!)) ((Array.range n).map (z[· % z.size]!)) := by
  refine ⟨rfl, fun i v r hv hr => ?_⟩
  rw [hv] at hr; cases hr
  by_cases hz : z.size = 0
  · have : v = default := by
      simp at hv
      obtain ⟨a, ha, rfl⟩ := hv
      simp [hz]
    subst this
    exact .bool false
  · simp at hv
    obtain ⟨a, ha, rfl⟩ := hv
    have hlt : a % z.size < z.size := Nat.mod_lt _ (by omega)
    rw [getElem!_pos z _ hlt]
    simp only [List.all_eq_true] at h
    exact plain_refl 6 _ (h _ (by simp))
theorem sim_buildSliceE {t : TypeId} {len : Nat} {ps qs : Array (Nat × Value)} (hp : PR σ ps.toList qs.toList) : Sim P Fr G σ (buildSliceE P t len ps) VR (runS P (Instr.buildSlice t len qs)) := by
  unfold buildSliceE
  split
  · rename_i elem hu
    split
    · rename_i j hj
      split
      · rename_i z hz
        split
        · rename_i c hchk hc
          simp only [Bool.and_eq_true, Nat.ble_eq, Nat.blt_eq] at hchk
          obtain ⟨⟨⟨h1, h1'⟩, h2⟩, h3⟩ := hchk
          obtain ⟨d, hd, hcd⟩ := fill_rel _ _ _ _ _ c hp (ar_cycle h3 _) hc
          unfold Instr.buildSlice
          refine sim_q (run_underlying hu) ?_
          refine sim_q (run_sizeOf hj) ?_
          simp only []
          rw [if_neg (by omega), if_neg (by omega)]
          refine sim_q (run_zero hj hz) ?_
          simp only [hd, pure, bind, Sem.bind]
          refine sim_map (A := fun τ n (a : Addr) => ∃ b cap, τ n = some ⟨b, 0, cap⟩ ∧ a = ⟨b, 0, none⟩) (sim_new (B := ⟨c.toList, elem, false, false⟩) rfl hcd.list) ?_
          rintro τ n a _ ⟨b, cap, h, rfl⟩
          have := VR.slc (l := len) (c := len) (o := 0) h (by unfold softCap; omega)
          simpa using this
        · exact sim_fail
      · exact sim_fail
    · exact sim_fail
  · exact sim_fail

/-! ### Places -/
def fieldAddrE (P : Program) (s : TypeId) (a : Value) (k : Nat) : Ev Value :=
  match P.underlying s, a with
  | some (.struct fields), .pointer (some ⟨n, o, none⟩) => match fields[k]? with
    | some f => match P.info? f.type with
      | some i => match i.size with
        | 0 => .fail
        | _ + 1 => .pure (.pointer (some ⟨n, o + f.offset, none⟩))
      | none => .fail
    | none => .fail
  | _, _ => .fail
theorem framed_fieldAddrE (P : Program) (s : TypeId) (a : Value) (k : Nat) : Framed (fieldAddrE P s a k) := by
  unfold fieldAddrE
  (repeat' split) <;> first | exact framed_pure _ | exact framed_fail
theorem sim_fieldAddrE {s : TypeId} {a r : Value} {k : Nat} (ha : VR σ a r) : Sim P Fr G σ (fieldAddrE P s a k) VR (runS P (Instr.fieldAt s r k)) := by
  unfold fieldAddrE
  split
  · rename_i fields n o hu
    split
    · rename_i f hf
      split
      · rename_i i hi
        split
        · exact sim_fail
        · rename_i m hm
          cases ha with
          | ptr hσ =>
            rename_i p
            refine sim_run (d := .pointer (some ⟨p.b, p.base + (o + f.offset), none⟩)) (fun w => ?_) (.ptr hσ)
            unfold Instr.fieldAt
            simp only [Sem.run_bind, run_underlying hu, Result.andThen_ok, hf]
            have : (fieldPlace ⟨p.b, p.base + o, none⟩ f).run P w = .ok ⟨p.b, p.base + (o + f.offset), none⟩ w := by
              unfold fieldPlace
              simp only [Sem.run_bind, run_sizeOf hi, Result.andThen_ok, hm, add_none]
              simp [Nat.add_assoc, pure, Sem.run]
            simp only [Instr.sureAddr, pure, Sem.run, Sem.run_bind, Result.andThen_ok, this]
      · exact sim_fail
    · exact sim_fail
  · exact sim_fail

def indexAddrE (P : Program) (t : TypeId) (x ix : Value) : Ev Value :=
  match P.underlying t, x, ix with
  | some (.array len elem), .pointer (some ⟨n, o, none⟩), .int k i => match P.info? elem with
    | some j => if 0 ≤ i ∧ i < (len : Int) then .pure (.pointer (some ⟨n, o + i.toNat * j.size, none⟩)) else .fail
    | none => .fail
  | some (.slice elem), .slice (some ⟨n, o, none⟩) len _, .int k i => match P.info? elem with
    | some j => if 0 ≤ i ∧ i < (len : Int) then .pure (.pointer (some ⟨n, o + i.toNat * j.size, none⟩)) else .fail
    | none => .fail
  | _, _, _ => .fail
theorem framed_indexAddrE (P : Program) (t : TypeId) (x ix : Value) : Framed (indexAddrE P t x ix) := by
  unfold indexAddrE
  (repeat' split) <;> first | exact framed_pure _ | exact framed_fail
theorem sim_indexAddrE {t : TypeId} {x y ix iy : Value} (hx : VR σ x y) (hi : VR σ ix iy) : Sim P Fr G σ (indexAddrE P t x ix) VR (runS P (Instr.indexAt t y iy)) := by
  unfold indexAddrE
  split
  · rename_i len elem n o k i hu
    split
    · rename_i j hj
      split
      · rename_i hb
        cases hx with
        | ptr hσ =>
          rename_i p
          cases hi
          refine sim_run (d := .pointer (some ⟨p.b, p.base + (o + i.toNat * j.size), none⟩)) (fun w => ?_) (.ptr hσ)
          unfold Instr.indexAt
          simp [Sem.run_bind, run_underlying hu, run_sizeOf hj, asIntOf, Instr.sureAddr, pure, Sem.run, hb, add_none, Nat.add_assoc, bind, Sem.bind, Sem.run_bind']
      · exact sim_fail
    · exact sim_fail
  · rename_i elem n o len c k i hu
    split
    · rename_i j hj
      split
      · rename_i hb
        have key : ∀ (p : Place) (c' : Nat), σ n = some p → Sim P Fr G σ (Ev.pure (Value.pointer (some ⟨n, o + i.toNat * j.size, none⟩))) VR (runS P (Instr.indexAt t (.slice (some ⟨p.b, p.base + o, none⟩) len c') (.int k i))) := by
          intro p c' hσ
          refine sim_run (d := .pointer (some ⟨p.b, p.base + (o + i.toNat * j.size), none⟩)) (fun w => ?_) (.ptr hσ)
          unfold Instr.indexAt
          simp [Sem.run_bind, run_underlying hu, run_sizeOf hj, asIntOf, Instr.sureAddr, pure, Sem.run, hb, add_none, Nat.add_assoc, bind, Sem.bind, Sem.run_bind']
        cases hi
        cases hx with
        | slc hσ hc => exact key _ _ hσ
        | soft hσ hc hl => exact key _ _ hσ
      · exact sim_fail
    · exact sim_fail
  · exact sim_fail

/-! ### Parts of values -/
def partE (P : Program) (t : TypeId) (cs : Array Value) (off : Nat) : Ev Value :=
  match P.underlying t, P.info? t with
  | some d, some i => match isAggD d with
    | true => .pure (.agg (cs.extract off (off + i.size)))
    | false => match cs[off]? with
      | some v => .pure v
      | none => .fail
  | _, _ => .fail
theorem framed_partE (P : Program) (t : TypeId) (cs : Array Value) (off : Nat) : Framed (partE P t cs off) := by
  unfold partE
  (repeat' split) <;> first | exact framed_pure _ | exact framed_fail
theorem AR.extract {a b : Array Value} (h : AR σ a b) (i j : Nat) : AR σ (a.extract i j) (b.extract i j) := by
  refine ⟨by simp [h.1], fun k v r hv hr => ?_⟩
  rw [Array.getElem?_extract] at hv hr
  split at hv
  · rw [h.1] at *
    rw [if_pos (by assumption)] at hr
    exact h.2 _ v r hv hr
  · cases hv
theorem sim_partE {t : TypeId} {cs ds : Array Value} {off : Nat} (h : AR σ cs ds) : Sim P Fr G σ (partE P t cs off) VR (runS P (part t ds off)) := by
  unfold partE
  split
  · rename_i d i hd hi
    unfold part
    refine sim_q (run_isAgg hd) ?_
    cases hagg : isAggD d with
    | true =>
      have := h.extract off (off + i.size)
      exact sim_run (d := .agg (ds.extract off (off + i.size))) (fun w => by simp [Sem.run_bind, run_sizeOf hi, pure, Sem.run]) (.agg this.1 this.2)
    | false =>
      simp only []
      cases hv : cs[off]? with
      | none => exact sim_fail
      | some v =>
        obtain ⟨r, hr, hvr⟩ := h.get hv
        exact sim_run (d := r) (fun w => by simp [hr, pure, Sem.run]) hvr
  · exact sim_fail
end
end Go.Proofs.YtakfoidmabendaaDoor.E
