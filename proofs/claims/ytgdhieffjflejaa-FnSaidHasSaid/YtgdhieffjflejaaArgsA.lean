/- Contracts of toAhead, szAhead, eqAhead; condition: at most 2^20 elements. -/
import Derived.Test.YtgdhieffjflejaaEqS
set_option linter.unusedSimpArgs false
set_option linter.unusedVariables false
namespace Go.Proofs.Ytgdhieffjflejaa
open Go.RowKit Go.Joins

theorem sl_of_block {α : Type} {w : World} {B n k : Nat} {R : α → List Value} {zs : List α} {t : TypeId} {fr : Nat × Nat} (hR : ∀ z, (R z).length = k) (h : w.heap[B]? = some (.cells (flat R zs) t fr)) (hl : zs.length = n) (hn : n ≤ 1048576) : IsSl w (.slice (some ⟨B, 0, none⟩) n n) k R zs := by
  subst hl
  exact ⟨some ⟨B, 0, none⟩, zs.length, rfl, Nat.le_refl _, by unfold maxLen; omega, rows_of_block hR h⟩
theorem int_len (z : Int) : (intR z).length = 1 := rfl
theorem Copied.sl5 {t : TypeId} {zs : List Rq} {w w' : World} {e : Ending} (h : Copied t Rq.cs zs w e w') (hn : zs.length ≤ 1048576) :
    ∃ g, e = .returned (.slice (some ⟨g, 0, none⟩) zs.length zs.length) ∧ IsSl w' (.slice (some ⟨g, 0, none⟩) zs.length zs.length) 5 Rq.cs zs ∧ Below w.heap.size w w' := ⟨_, h.1, sl_of_block five_len h.2.1 rfl hn, h.2.2⟩
theorem Copied.sl1 {t : TypeId} {zs : List Int} {w w' : World} {e : Ending} (h : Copied t intR zs w e w') (hn : zs.length ≤ 1048576) :
    ∃ g, e = .returned (.slice (some ⟨g, 0, none⟩) zs.length zs.length) ∧ IsSl w' (.slice (some ⟨g, 0, none⟩) zs.length zs.length) 1 intR zs ∧ Below w.heap.size w w' := ⟨_, h.1, sl_of_block int_len h.2.1 rfl hn, h.2.2⟩

/-- The world behind one store, under a name of its own. -/
theorem stored1 (w : World) (g i : Nat) (v : Value) {cs : Array Value} {t : TypeId} {fr : Nat × Nat} (h : w.heap[g]? = some (.cells cs t fr)) :
    ∃ W, W = w.setCell ⟨g, i, none⟩ v ∧ W.heap.size = w.heap.size ∧ W.heap[g]? = some (.cells (cs.setIfInBounds i v) t fr) ∧ (∀ b, b ≠ g → W.heap[b]? = w.heap[b]?) ∧ Below g w W :=
  ⟨_, rfl, by simp, block_setCell h v, fun b hb => Below.heap_setCell _ _ _ _ hb, by exact (by repeat' (first | with_reducible exact Below.refl _ _ | with_reducible assumption | with_reducible refine Below.alloc ?_ ?_ _ | with_reducible refine Below.drew ?_ | with_reducible refine Below.setCell ?_ ?_ _ | omega | (simp; omega) | (simp; done)))⟩

/-- A client that is ahead, anew: its blocks. -/
def GotAhB (z : Ah) (w : World) (e : Ending) (w' : World) : Prop :=
  ∃ g0 g1, e = .returned (.agg #[.slice (some ⟨g0, 0, none⟩) z.dn.length z.dn.length, .slice (some ⟨g1, 0, none⟩) z.wt.length z.wt.length, .int .i64 z.bk]) ∧
    w'.heap[g0]? = some (.cells (flat Rq.cs z.dn) 30 (0, 0)) ∧ w'.heap[g1]? = some (.cells (flat Rq.cs z.wt) 30 (0, 0)) ∧ w.heap.size ≤ g0 ∧ g0 < g1 ∧ Below w.heap.size w w'
/-- A client that is ahead, anew. -/
def GotAh (z : Ah) (w : World) (e : Ending) (w' : World) : Prop :=
  ∃ g0 g1, e = .returned (.agg #[.slice (some ⟨g0, 0, none⟩) z.dn.length z.dn.length, .slice (some ⟨g1, 0, none⟩) z.wt.length z.wt.length, .int .i64 z.bk]) ∧
    IsSl w' (.slice (some ⟨g0, 0, none⟩) z.dn.length z.dn.length) 5 Rq.cs z.dn ∧ IsSl w' (.slice (some ⟨g1, 0, none⟩) z.wt.length z.wt.length) 5 Rq.cs z.wt ∧ Below w.heap.size w w'

end Go.Proofs.Ytgdhieffjflejaa
