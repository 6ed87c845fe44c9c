/- Contracts of functions of this translation, and what they come to; what is not used is left out. -/
import Derived.BigQuiet
import Derived.Test.YtpjkbamkaicoiaaDoorPUtil

section
/- A region that draws its order, whose operations only read and whose callees keep S: walked once, in the order of the text. -/
set_option linter.unusedVariables false
set_option linter.unusedSimpArgs false
namespace Go.Proofs.YtpjkbamkaicoiaaDoor.U
open Go.RowKit
/-- A world that holds S. -/
structure In (S : World → Prop) where
  w : World
  h : S w
theorem region_in {S : World → Prop} {P : Program} {id : Nat} {Q : Exit → Act → World → Prop} {a : Act} {w : World} {l : List Oper} (hm : P.follows .mixedOrders = true) (hB : Region.lexB .any l.toArray = true) (hS : S w.drew)
    (h : wpQuiet P l.toArray (fun w' => ∃ x : In S, w' = x.w) (fun a' => ∀ w', S w' → Q .normal a' w') l a) : (Code.region id l.toArray true).wp P Q a w := by
  have e : (fun a' => ∀ w', S w' → Q .normal a' w') = (fun a' => ∀ w', (∃ x : In S, w' = x.w) → Q .normal a' w') := by
    funext a'
    exact propext ⟨fun h w' ⟨x, hx⟩ => hx ▸ h _ x.h, fun h w' hS => h _ ⟨⟨w', hS⟩, rfl⟩⟩
  rw [e] at h
  exact wp_region_quiet (C := fun w' => ∃ x : In S, w' = x.w) hm hB ⟨⟨_, hS⟩, rfl⟩ (by simpa using h)
end Go.Proofs.YtpjkbamkaicoiaaDoor.U
end
