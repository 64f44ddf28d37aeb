/- Contracts of the functions that weigh (szXS) and compare (eqXS) slices of integers and of structs of five; eqXS: of two that are alike; no condition. -/
import Derived.Test.YtgdhieffjflejaaCopy5
set_option linter.unusedSimpArgs false
set_option linter.unusedVariables false
namespace Go.Proofs.Ytgdhieffjflejaa
open Go.RowKit Go.Joins

/-- What is left behind n elements; -1: too many. -/
def leftOf (left : Int) (n : Nat) : Int := if left - n < 0 then -1 else left - n
/-- Yes; nothing old has turned. -/
def Yes (w : World) (e : Ending) (w' : World) : Prop := e = .returned (.bool true) ∧ Below w.heap.size w w'

theorem eqFive (c n o x y : Int) : (c == c && n == n && o == o && x == x && y == y) = true := by simp


set_option maxHeartbeats 400000 in
theorem eqReq_self (c n o x y : Int) (w : World) :
    Calls Try.prog 32 #[.agg #[.int .i64 c, .int .i64 n, .int .i64 o, .int .i64 x, .int .i64 y], .agg #[.int .i64 c, .int .i64 n, .int .i64 o, .int .i64 x, .int .i64 y]] w (Yes w) := by
  go_enter Try.func32, Try.ntmps32
  go_wp2
  go_ret
  exact ⟨rfl, (by repeat' (first | with_reducible exact Below.refl _ _ | with_reducible assumption | with_reducible refine Below.alloc ?_ ?_ _ | with_reducible refine Below.drew ?_ | with_reducible refine Below.setCell ?_ ?_ _ | omega | (simp; omega) | (simp; done)))⟩

end Go.Proofs.Ytgdhieffjflejaa
