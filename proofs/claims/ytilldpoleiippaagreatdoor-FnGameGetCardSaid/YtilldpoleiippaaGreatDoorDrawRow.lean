/- One ask in a block of its own, as a row; no condition. -/
import Derived.Test.YtilldpoleiippaaGreatDoorMA
set_option linter.unusedSimpArgs false
set_option linter.unusedVariables false
namespace Go.Proofs.YtilldpoleiippaaGreatDoor
open Go.RowKit Go.Joins
theorem rowsAt_req (w : World) (r : Rq) (t : TypeId) : RowsAt (w.alloc (.cells #[.int .i64 r.c, .int .i64 r.n, .int .i64 r.o, .int .i64 r.x, .int .i64 r.y] t)) (some ⟨w.heap.size, 0, none⟩) 5 Rq.cs [r] :=
  rows_of_block (t := t) (fr := (0, 0)) five_len (heap_alloc_new w (.cells #[.int .i64 r.c, .int .i64 r.n, .int .i64 r.o, .int .i64 r.x, .int .i64 r.y] t))
end Go.Proofs.YtilldpoleiippaaGreatDoor
