/- Contracts of markIntS, heldIntS, and of markEntS, heldEntS at the nil slice; condition: small numbers. -/
import Derived.Test.YtgdhieffjflejaaAt
import Derived.LoopTactic
set_option linter.unusedSimpArgs false
set_option linter.unusedVariables false
namespace Go.Proofs.Ytgdhieffjflejaa
open Go.RowKit Go.Joins

/-- Only cells of block f have turned. -/
structure OnlyBlock (f : Nat) (w w' : World) : Prop where
  others : ∀ b, b ≠ f → w'.heap[b]? = w.heap[b]?
  size : w'.heap.size = w.heap.size
  frozen : ∀ j, w'.frozen? ⟨f, j, none⟩ = w.frozen? ⟨f, j, none⟩
  below : Below f w w'
theorem OnlyBlock.refl (f : Nat) (w : World) : OnlyBlock f w w := ⟨fun _ _ => rfl, rfl, fun _ => rfl, Below.refl _ _⟩
theorem OnlyBlock.set {f : Nat} {w w' : World} (h : OnlyBlock f w w') (j : Nat) (v : Value) : OnlyBlock f w (w'.setCell ⟨f, j, none⟩ v) :=
  ⟨fun b hb => (Below.heap_setCell w' _ v b hb).trans (h.others b hb), by simp [h.size], fun i => by rw [World.frozen?_setCell]; exact h.frozen i, Below.setCell h.below (Nat.le_refl _) v⟩

def Marked (f n : Nat) (m : Int) (w : World) (e : Ending) (w' : World) : Prop :=
  e = .returned (.int .i64 (m + n)) ∧ (∀ j, j < n → w'.cell? ⟨f, j, none⟩ = some (.int .i64 (m + j))) ∧ OnlyBlock f w w'

end Go.Proofs.Ytgdhieffjflejaa
