/- Contracts of okOrNull and allOk, with slices.ContainsFunc and IndexFunc at their closure; no condition. -/
import Derived.Test.YtgebliigimofnaaDoorCopy5
import Derived.Test.YtgebliigimofnaaDoorEql
namespace Go.Proofs.YtgebliigimofnaaDoor
open Go.RowKit Go.Joins

attribute [local go_sem ↓] eql_rq neq_rq

/-- An ask that is ok, or none. -/
def goodB (c n o x y : Int) : Bool := eqR c n o x y 0 0 0 0 0 || okB c n o x y
def good (r : Rq) : Bool := goodB r.c r.n r.o r.x r.y

/-- The place of the first that is not good; -1: all are. -/
def IsFirst (zs : List Rq) (w : World) (e : Ending) (w' : World) : Prop :=
  ∃ m : Int, e = .returned (.int .i64 m) ∧ ((zs.all good = true ∧ m < 0) ∨ (zs.all good = false ∧ 0 ≤ m)) ∧ Below w.heap.size w w'

end Go.Proofs.YtgebliigimofnaaDoor
