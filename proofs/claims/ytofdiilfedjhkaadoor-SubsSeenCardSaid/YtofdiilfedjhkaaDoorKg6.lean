/- Contracts of functions of this translation, and what they come to; what is not used is left out. -/
import Derived.Test.YtofdiilfedjhkaaDoorKBox
import Derived.Test.YtofdiilfedjhkaaDoorKCls
import Derived.Test.YtofdiilfedjhkaaDoorKUtil
import Derived.Test.YtofdiilfedjhkaaDoorKg5

section
/- Worlds of a walk: blocks of its own, all new and all apart, with what they hold; what was there ahead is as it was. -/
set_option linter.unusedVariables false
set_option linter.unusedSimpArgs false
namespace Go.Proofs.YtofdiilfedjhkaaDoor.U
open Go.RowKit
abbrev Blk := Nat × TypeId × Array Value
structure Own (w0 : World) (bs : List Blk) (w : World) : Prop where
  box : ∀ p ∈ bs, At p.1 p.2.1 p.2.2 w
  low : Below w0.heap.size w0 w
  old : ∀ p ∈ bs, w0.heap.size ≤ p.1
  nod : (bs.map (·.1)).Nodup
variable {w0 w w' : World} {bs : List Blk}
theorem Own.start (w : World) : Own w [] w := ⟨fun _ h => absurd h List.not_mem_nil, Below.refl _ _, fun _ h => absurd h List.not_mem_nil, List.nodup_nil⟩
theorem Own.at (h : Own w0 bs w) (i : Nat) {g : Nat} {T : TypeId} {cs : Array Value} (hi : bs[i]? = some (g, T, cs)) : At g T cs w := h.box _ (List.mem_of_getElem? hi)
theorem Own.ge (h : Own w0 bs w) (i : Nat) {g : Nat} {T : TypeId} {cs : Array Value} (hi : bs[i]? = some (g, T, cs)) : w0.heap.size ≤ g := h.old _ (List.mem_of_getElem? hi)
theorem Own.lt (h : Own w0 bs w) (i : Nat) {g : Nat} {T : TypeId} {cs : Array Value} (hi : bs[i]? = some (g, T, cs)) : g < w.heap.size := (h.at i hi).lt
theorem Own.cell (h : Own w0 bs w) (i k : Nat) {g : Nat} {T : TypeId} {cs : Array Value} {v : Value} (hi : bs[i]? = some (g, T, cs)) (hk : cs[k]? = some v) : w.cell? ⟨g, k, none⟩ = some v := (h.at i hi).cell k v hk
theorem Own.free (h : Own w0 bs w) (i k : Nat) {g : Nat} {T : TypeId} {cs : Array Value} (hi : bs[i]? = some (g, T, cs)) : w.frozen? ⟨g, k, none⟩ = false := (h.at i hi).free k
theorem Own.ne (h : Own w0 bs w) (i j : Nat) {g g' : Nat} {T T' : TypeId} {cs cs' : Array Value} (hi : bs[i]? = some (g, T, cs)) (hj : bs[j]? = some (g', T', cs')) (hij : i ≠ j) : ¬ g = g' := by
  intro e
  have h1 : (bs.map (·.1))[i]? = some g := by rw [List.getElem?_map, hi]; rfl
  have h2 : (bs.map (·.1))[j]? = some g := by rw [List.getElem?_map, hj, e]; rfl
  obtain ⟨hl, h1'⟩ := List.getElem?_eq_some_iff.1 h1
  obtain ⟨hl', h2'⟩ := List.getElem?_eq_some_iff.1 h2
  rcases Nat.lt_or_gt_of_ne hij with hlt | hlt
  · exact List.pairwise_iff_getElem.1 h.nod i j hl hl' hlt (h1'.trans h2'.symm)
  · exact List.pairwise_iff_getElem.1 h.nod j i hl' hl hlt (h2'.trans h1'.symm)
theorem Own.below (h : Own w0 bs w) (hb : Below w.heap.size w w') : Own w0 bs w' := ⟨fun p hp => (h.box p hp).below hb, h.low.trans (hb.mono h.low.size), h.old, h.nod⟩
theorem Own.drewN (h : Own w0 bs w) (n : Nat) : Own w0 bs (w.drewN n) := ⟨fun p hp => At.drewN (h.box p hp) n, below_drewN h.low n, h.old, h.nod⟩
theorem Own.drew (h : Own w0 bs w) : Own w0 bs w.drew := h.drewN 1
theorem Own.alloc (h : Own w0 bs w) (T : TypeId) (cs : Array Value) {g : Nat} (hg : g = w.heap.size) : Own w0 ((g, T, cs) :: bs) (w.alloc (.cells cs T)) := by
  subst hg
  refine ⟨fun p hp => ?_, h.low.alloc h.low.size _, fun p hp => ?_, ?_⟩
  · rcases List.mem_cons.1 hp with rfl | hp
    · exact At.new w _ _
    · exact (h.box p hp).alloc _
  · rcases List.mem_cons.1 hp with rfl | hp
    · exact h.low.size
    · exact h.old p hp
  · rw [List.map_cons, List.nodup_cons]
    refine ⟨fun hm => ?_, h.nod⟩
    obtain ⟨p, hp, he⟩ := List.mem_map.1 hm
    have h1 := (h.box p hp).lt
    have he' : p.1 = w.heap.size := he
    omega
/-- What a callee made is added. -/
theorem Own.call {new : List Blk} (h : Own w0 bs w) (k : Own w new w') : Own w0 (new ++ bs) w' := by
  have hb := h.below k.low
  refine ⟨fun p hp => ?_, hb.low, fun p hp => ?_, ?_⟩
  · rcases List.mem_append.1 hp with hp | hp
    · exact k.box p hp
    · exact hb.box p hp
  · rcases List.mem_append.1 hp with hp | hp
    · exact Nat.le_trans h.low.size (k.old p hp)
    · exact h.old p hp
  · rw [List.map_append, List.nodup_append]
    refine ⟨k.nod, h.nod, fun a ha b hb' e => ?_⟩
    obtain ⟨p, hp, rfl⟩ := List.mem_map.1 ha
    obtain ⟨q, hq, rfl⟩ := List.mem_map.1 hb'
    have h1 := k.old p hp
    have h2 := (h.box q hq).lt
    omega
theorem Own.put (h : Own w0 bs w) (i k : Nat) (v : Value) {g : Nat} {T : TypeId} {cs : Array Value} (hi : bs[i]? = some (g, T, cs)) : Own w0 (bs.set i (g, T, cs.setIfInBounds k v)) (w.setCell ⟨g, k, none⟩ v) := by
  have hlt : i < bs.length := (List.getElem?_eq_some_iff.1 hi).1
  have hmap : (bs.set i (g, T, cs.setIfInBounds k v)).map (·.1) = bs.map (·.1) := by
    rw [List.map_set]
    apply List.ext_getElem?
    intro j
    rw [List.getElem?_set]
    split
    · rename_i hj; subst hj
      rw [List.getElem?_map, hi]
      simp [hlt]
    · rfl
  refine ⟨fun p hp => ?_, h.low.setCell (p := ⟨g, k, none⟩) (h.ge i hi) v, fun p hp => ?_, by rw [hmap]; exact h.nod⟩
  · obtain ⟨j, hj⟩ := List.mem_iff_getElem?.1 hp
    rw [List.getElem?_set] at hj
    split at hj
    · rename_i hij; subst hij
      injection hj with hj
      subst hj
      exact (h.at i hi).set k v
    · rename_i hij
      obtain ⟨g', T', cs'⟩ := p
      exact (h.at j hj).other ⟨g, k, none⟩ v (h.ne j i hj hi (fun e => hij e.symm))
  · obtain ⟨j, hj⟩ := List.mem_iff_getElem?.1 hp
    rw [List.getElem?_set] at hj
    split at hj
    · rename_i hij; subst hij
      injection hj with hj
      subst hj
      exact h.ge i hi
    · exact h.old p (List.mem_of_getElem? hj)
/-- A struct's cells, laid one behind the other. -/
def fillW (w : World) (g : Nat) : Nat → List Value → World
  | _, [] => w
  | k, v :: r => fillW (w.setCell ⟨g, k, none⟩ v) g (k + 1) r
def fillC (cs : Array Value) : Nat → List Value → Array Value
  | _, [] => cs
  | k, v :: r => fillC (cs.setIfInBounds k v) (k + 1) r
theorem Own.fill : ∀ (vs : List Value) (k : Nat) {w : World} {bs : List Blk} (h : Own w0 bs w) (i : Nat) {g : Nat} {T : TypeId} {cs : Array Value} (hi : bs[i]? = some (g, T, cs)), Own w0 (bs.set i (g, T, fillC cs k vs)) (fillW w g k vs)
  | [], k, w, bs, h, i, g, T, cs, hi => by
    have e : bs.set i (g, T, cs) = bs := by
      apply List.ext_getElem?
      intro j
      rw [List.getElem?_set]
      split
      · rename_i hj; subst hj
        rw [if_pos (List.getElem?_eq_some_iff.1 hi).1, hi]
      · rfl
    unfold fillC fillW
    rw [e]; exact h
  | v :: r, k, w, bs, h, i, g, T, cs, hi => by
    have h1 := h.put i k v hi
    have hlt : i < bs.length := (List.getElem?_eq_some_iff.1 hi).1
    have h2 := Own.fill r (k + 1) h1 i (g := g) (T := T) (cs := cs.setIfInBounds k v) (by rw [List.getElem?_set, if_pos rfl, if_pos hlt])
    rw [List.set_set] at h2
    exact h2
/-- Some of the blocks, in an order of one's own. -/
theorem Own.pick (h : Own w0 bs w) (is : List Nat) (hn : is.Nodup) : Own w0 (is.filterMap (bs[·]?)) w := by
  have hm : ∀ p ∈ is.filterMap (bs[·]?), p ∈ bs := fun p hp => by
    obtain ⟨i, _, hi⟩ := List.mem_filterMap.1 hp
    exact List.mem_of_getElem? hi
  refine ⟨fun p hp => h.box p (hm p hp), h.low, fun p hp => h.old p (hm p hp), ?_⟩
  clear hm
  induction is with
  | nil => exact List.nodup_nil
  | cons i r ih =>
    rw [List.nodup_cons] at hn
    cases hi : bs[i]? with
    | none => rw [List.filterMap_cons_none hi]; exact ih hn.2
    | some p =>
      rw [List.filterMap_cons_some hi, List.map_cons, List.nodup_cons]
      refine ⟨fun hmem => ?_, ih hn.2⟩
      obtain ⟨q, hq, he⟩ := List.mem_map.1 hmem
      obtain ⟨j, hj, hjq⟩ := List.mem_filterMap.1 hq
      obtain ⟨g, T, cs⟩ := p
      obtain ⟨g', T', cs'⟩ := q
      exact h.ne j i hjq hi (fun e => hn.1 (e ▸ hj)) he
section
variable {P : Program} {md : Region.Mode} {ops : Array Oper} {Q : Exit → Act → World → Prop} {flag : Nat → Bool} {C : World → Prop}
end
end Go.Proofs.YtofdiilfedjhkaaDoor.U
end

section
/- Cuts of a walk, and results that lie in memory. -/
set_option linter.unusedVariables false
set_option linter.unusedSimpArgs false
namespace Go.Proofs.YtofdiilfedjhkaaDoor.U
open Go.RowKit
theorem Own.nil {w w' : World} (h : Below w.heap.size w w') : Own w [] w' := ⟨fun _ h => absurd h List.not_mem_nil, h, fun _ h => absurd h List.not_mem_nil, List.nodup_nil⟩
theorem Own.laid {w0 w w' : World} {bs bs' : List Blk} (h : Own w0 bs w) (vs : List Value) (k i : Nat) {g : Nat} {T : TypeId} {cs cs' : Array Value} (hi : bs[i]? = some (g, T, cs)) (hc : fillC cs k vs = cs') (hb : bs.set i (g, T, cs') = bs') (hw : fillW w g k vs = w') : Own w0 bs' w' := by
  subst hc; subst hb; subst hw
  exact Own.fill vs k h i hi
theorem Own.cast {w0 w w' : World} {bs bs' : List Blk} (h : Own w0 bs w) (hb : bs = bs') (hw : w = w') : Own w0 bs' w' := by subst hb; subst hw; exact h
/-- A callee that leaves nothing of its own. -/
theorem Own.ret {P : Program} {f : FuncId} {args : Array Value} {v : Value} (h : ∀ w : World, Calls P f args w fun e w' => e = .returned v ∧ Below w.heap.size w w') : ∀ w : World, Calls P f args w fun e w' => e = .returned v ∧ Own w [] w' :=
  fun w => (h w).mono fun e w' h => ⟨h.1, Own.nil h.2⟩
section
variable {P : Program} {c : Code} {Q : Exit → Act → World → Prop} {a : Act} {w : World}
end
section
variable {P : Program} {fn : Func} {p q r : Tmp} {T1 T2 t1 t2 : TypeId} {tmps : Array Value} {w : World} {g1 g2 : Nat} {cs1 cs2 : Array Value} {d1 d2 : TypeDesc} {v : Value}
end
end Go.Proofs.YtofdiilfedjhkaaDoor.U
end
