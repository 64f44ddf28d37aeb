/- Contracts of clone at lists of figures, of numbers, of asks; condition: small sizes. -/
import Derived.Test.YtgdhieffjflejaaRow
import Derived.Test.YtgdhieffjflejaaArgsA
import Derived.Laws.Cover3
set_option linter.unusedSimpArgs false
set_option linter.unusedVariables false
namespace Go.Proofs.Ytgdhieffjflejaa
open Go.RowKit Go.Joins

/-- A copy in a block of its own, without room. -/
def Cloned {α : Type} (el k n : Nat) (R : α → List Value) (zs : List α) (w : World) (e : Ending) (w' : World) : Prop :=
  ∃ a', e = .returned (.slice a' n n) ∧ Row w' w.heap.size el a' n k R zs ∧ Below w.heap.size w w'
theorem run_eqlNil {P : Program} (t e : TypeId) (a : Option Addr) (l c : Nat) (h : P.underlying t = some (.slice e)) (w : World) : (binOp .eql t (.slice a l c) (.slice none 0 0)).run P w = .ok (.bool a.isNone) w := by
  simp [binOp, Go.run_equal_slice_nil w t e a l c h]


end Go.Proofs.Ytgdhieffjflejaa
