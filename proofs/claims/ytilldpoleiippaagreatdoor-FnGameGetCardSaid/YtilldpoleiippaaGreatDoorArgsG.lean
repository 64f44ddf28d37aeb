/- Contracts of toGame, szGame, eqGame; condition: at most 2^20 elements. -/
import Derived.Test.YtilldpoleiippaaGreatDoorArgsA
set_option linter.unusedSimpArgs false
set_option linter.unusedVariables false
namespace Go.Proofs.YtilldpoleiippaaGreatDoor
open Go.RowKit Go.Joins

/-- A game, anew: its blocks. -/
def GotGmB (z : Gm) (w : World) (e : Ending) (w' : World) : Prop :=
  ∃ g0 g1 g2, e = .returned (.agg #[.slice (some ⟨g0, 0, none⟩) z.es.length z.es.length, .slice (some ⟨g1, 0, none⟩) z.fl.length z.fl.length, .slice (some ⟨g2, 0, none⟩) z.la.length z.la.length]) ∧
    w'.heap[g0]? = some (.cells (flat Rq.cs z.es) 44 (0, 0)) ∧ w'.heap[g1]? = some (.cells (flat intR z.fl) 3 (0, 0)) ∧ w'.heap[g2]? = some (.cells (flat intR z.la) 3 (0, 0)) ∧ w.heap.size ≤ g0 ∧ g0 < g1 ∧ g1 < g2 ∧ Below w.heap.size w w'
/-- A game, anew. -/
def GotGm (z : Gm) (w : World) (e : Ending) (w' : World) : Prop :=
  ∃ g0 g1 g2, e = .returned (.agg #[.slice (some ⟨g0, 0, none⟩) z.es.length z.es.length, .slice (some ⟨g1, 0, none⟩) z.fl.length z.fl.length, .slice (some ⟨g2, 0, none⟩) z.la.length z.la.length]) ∧
    IsSl w' (.slice (some ⟨g0, 0, none⟩) z.es.length z.es.length) 5 Rq.cs z.es ∧ IsSl w' (.slice (some ⟨g1, 0, none⟩) z.fl.length z.fl.length) 1 intR z.fl ∧ IsSl w' (.slice (some ⟨g2, 0, none⟩) z.la.length z.la.length) 1 intR z.la ∧ Below w.heap.size w w'

end Go.Proofs.YtilldpoleiippaaGreatDoor
