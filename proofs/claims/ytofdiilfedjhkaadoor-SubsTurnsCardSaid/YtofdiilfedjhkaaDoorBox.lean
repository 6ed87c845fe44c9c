/- Worlds of a walk whose blocks are known whole. -/
import Derived.Test.YtofdiilfedjhkaaDoorCls
set_option linter.unusedVariables false
set_option linter.unusedSimpArgs false
namespace Go.Proofs.YtofdiilfedjhkaaDoor.U
open Go.RowKit
theorem setCell_self {w : World} {p : Addr} {v : Value} (h : w.cell? p = some v) : w.setCell p v = w := by
  have e : (w.setCell p v).heap = w.heap := by
    unfold World.setCell
    apply Array.ext_getElem?
    intro i
    simp only [Array.getElem?_modify]
    split
    · rename_i hi
      subst hi
      unfold World.cell? at h
      cases hb : w.heap[p.block]? with
      | none => rfl
      | some o =>
        rw [hb] at h
        cases o with
        | cells c t f =>
          simp only [Option.map_some]
          congr 2
          simp only at h
          split at h
          · cases h
          · rename_i hs
            rw [if_neg hs]
            apply Array.ext_getElem?
            intro j
            rw [Array.getElem?_setIfInBounds]
            split
            · rename_i hj
              subst hj
              split
              · exact h.symm
              · rename_i hlt
                rw [Array.getElem?_eq_none (by omega)]
            · rfl
        | _ => rfl
    · rfl
  have e2 : w.setCell p v = { w with heap := (w.setCell p v).heap } := rfl
  rw [e2, e]
theorem self_set {w : World} {p : Addr} {v : Value} (h : w.cell? p = some v) (n : Nat) : (w.drewN n).setCell p v = w.drewN n := setCell_self (w := w.drewN n) h
theorem h_alloc (w : World) (o : Obj) : (w.alloc o).heap = w.heap.push o := rfl
theorem h_drew (w : World) : w.drew.heap = w.heap := rfl
theorem h_drewN (w : World) (n : Nat) : (w.drewN n).heap = w.heap := rfl
theorem h_set (w : World) (g i : Nat) (v : Value) (j : Nat) : (w.setCell ⟨g, i, none⟩ v).heap[j]? = if g = j then (w.heap[j]?).map (fun | .cells c e f => .cells (c.setIfInBounds i v) e f | o => o) else w.heap[j]? := by
  unfold World.setCell
  simp only [Array.getElem?_modify]
  split
  · rename_i h; subst h
    cases w.heap[g]? with
    | none => rfl
    | some o => cases o <;> rfl
  · rfl
/-- These blocks hold these cells; what was there ahead is as it was. -/
structure Box (w0 : World) (bs : List (Nat × TypeId × Array Value)) (w : World) : Prop where
  cells : ∀ p ∈ bs, At p.1 p.2.1 p.2.2 w
  low : Below w0.heap.size w0 w
variable {w0 w w' : World} {bs : List (Nat × TypeId × Array Value)}
theorem Box.start (w : World) : Box w [] w := ⟨fun _ h => absurd h List.not_mem_nil, Below.refl _ _⟩
theorem Box.below (h : Box w0 bs w) (hb : Below w.heap.size w w') : Box w0 bs w' := ⟨fun p hp => (h.cells p hp).below hb, h.low.trans (hb.mono h.low.size)⟩
theorem Box.drewN (h : Box w0 bs w) (n : Nat) : Box w0 bs (w.drewN n) := ⟨fun p hp => At.drewN (h.cells p hp) n, below_drewN h.low n⟩
theorem Box.alloc (h : Box w0 bs w) (T : TypeId) (cs : Array Value) : Box w0 ((w.heap.size, T, cs) :: bs) (w.alloc (.cells cs T)) := by
  refine ⟨fun p hp => ?_, h.low.alloc h.low.size _⟩
  rcases List.mem_cons.1 hp with rfl | hp
  · exact At.new w _ _
  · exact (h.cells p hp).alloc _
/-- A block that is there is taken up. -/
theorem Box.add (h : Box w0 bs w) {g : Nat} {T : TypeId} {cs : Array Value} (ha : At g T cs w) : Box w0 ((g, T, cs) :: bs) w := by
  refine ⟨fun p hp => ?_, h.low⟩
  rcases List.mem_cons.1 hp with rfl | hp
  · exact ha
  · exact h.cells p hp
theorem Box.at (h : Box w0 bs w) (i : Nat) (g : Nat) (T : TypeId) (cs : Array Value) (hi : bs[i]? = some (g, T, cs)) : At g T cs w := h.cells _ (List.mem_of_getElem? hi)
theorem Box.lt (h : Box w0 bs w) (i : Nat) (g : Nat) (T : TypeId) (cs : Array Value) (hi : bs[i]? = some (g, T, cs)) : g < w.heap.size := (h.at i g T cs hi).lt
end Go.Proofs.YtofdiilfedjhkaaDoor.U
