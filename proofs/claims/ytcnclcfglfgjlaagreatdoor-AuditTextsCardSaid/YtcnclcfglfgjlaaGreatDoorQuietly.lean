/- A region that draws its order, and whose calls only add to the memory: one walk in the order of the text, the world a letter of a family of worlds. -/
import Derived.BigQuiet
import Derived.Below
import Derived.WalkKit
namespace Go.Proofs.YtcnclcfglfgjlaaGreatDoor.Quietly
open Go Go.RowKit

/-- the worlds that only add to a world, as a family -/
theorem worlds (w0 : World) : ∃ (X : Type) (F : X → World), Nonempty X ∧ (∀ x, Below w0.heap.size w0 (F x)) ∧ (∃ x, w0 = F x) ∧ ∀ x w', Below (F x).heap.size (F x) w' → ∃ y, w' = F y :=
  ⟨{ w // Below w0.heap.size w0 w }, Subtype.val, ⟨⟨w0, Below.refl _ _⟩⟩, fun x => x.2, ⟨⟨w0, Below.refl _ _⟩, rfl⟩, fun x w' h => ⟨⟨w', x.2.trans (h.mono x.2.size)⟩, rfl⟩⟩
theorem region {P : Program} {X : Type} {F : X → World} {id : Nat} {Q : Exit → Act → World → Prop} {a : Act} {w : World} {l : List Oper} (hm : P.follows .mixedOrders = true) (hB : Region.lexB .any l.toArray = true)
    (hw : ∃ x, w = F x) (hF : ∀ x w', Below (F x).heap.size (F x) w' → ∃ y, w' = F y)
    (h : wpQuiet P l.toArray (fun w' => ∃ x, w' = F x) (fun a' => ∀ w', (∃ x, w' = F x) → Q .normal a' w') l a) : (Code.region id l.toArray true).wp P Q a w := by
  refine wp_region_quiet (C := fun w' => ∃ x, w' = F x) hm hB ?_ (by simpa using h)
  obtain ⟨x, rfl⟩ := hw
  exact hF x _ (Below.refl _ _).drew
end Go.Proofs.YtcnclcfglfgjlaaGreatDoor.Quietly
