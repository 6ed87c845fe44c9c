/- Contracts of functions of this translation, and what they come to; what is not used is left out. -/
import Derived.Test.YtofdiilfedjhkaaDoorKCls
import Derived.Test.YtofdiilfedjhkaaDoorKUtil

section
/- Worlds of a walk whose blocks are known whole. -/
set_option linter.unusedVariables false
set_option linter.unusedSimpArgs false
namespace Go.Proofs.YtofdiilfedjhkaaDoor.U
open Go.RowKit
/-- These blocks hold these cells; what was there ahead is as it was. -/
structure Box (w0 : World) (bs : List (Nat × TypeId × Array Value)) (w : World) : Prop where
  cells : ∀ p ∈ bs, At p.1 p.2.1 p.2.2 w
  low : Below w0.heap.size w0 w
variable {w0 w w' : World} {bs : List (Nat × TypeId × Array Value)}
theorem Box.start (w : World) : Box w [] w := ⟨fun _ h => absurd h List.not_mem_nil, Below.refl _ _⟩
theorem Box.below (h : Box w0 bs w) (hb : Below w.heap.size w w') : Box w0 bs w' := ⟨fun p hp => (h.cells p hp).below hb, h.low.trans (hb.mono h.low.size)⟩
theorem Box.drewN (h : Box w0 bs w) (n : Nat) : Box w0 bs (w.drewN n) := ⟨fun p hp => At.drewN (h.cells p hp) n, below_drewN h.low n⟩
theorem Box.alloc (h : Box w0 bs w) (T : TypeId) (cs : Array Value) : Box w0 ((w.heap.size, T, cs) :: bs) (w.alloc (.cells cs T)) := by
  refine ⟨fun p hp => ?_, h.low.alloc h.low.size _⟩
  rcases List.mem_cons.1 hp with rfl | hp
  · exact At.new w _ _
  · exact (h.cells p hp).alloc _
/-- A block that is there is taken up. -/
theorem Box.add (h : Box w0 bs w) {g : Nat} {T : TypeId} {cs : Array Value} (ha : At g T cs w) : Box w0 ((g, T, cs) :: bs) w := by
  refine ⟨fun p hp => ?_, h.low⟩
  rcases List.mem_cons.1 hp with rfl | hp
  · exact ha
  · exact h.cells p hp
theorem Box.at (h : Box w0 bs w) (i : Nat) (g : Nat) (T : TypeId) (cs : Array Value) (hi : bs[i]? = some (g, T, cs)) : At g T cs w := h.cells _ (List.mem_of_getElem? hi)
theorem Box.lt (h : Box w0 bs w) (i : Nat) (g : Nat) (T : TypeId) (cs : Array Value) (hi : bs[i]? = some (g, T, cs)) : g < w.heap.size := (h.at i g T cs hi).lt
end Go.Proofs.YtofdiilfedjhkaaDoor.U
end
