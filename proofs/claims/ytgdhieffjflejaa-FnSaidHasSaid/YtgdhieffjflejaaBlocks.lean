/- New blocks under names of their own: the world behind one to four allocations; blocks carried over calls; no condition. -/
import Derived.Test.YtgdhieffjflejaaOpen
set_option linter.unusedSimpArgs false
set_option linter.unusedVariables false
namespace Go.Proofs.Ytgdhieffjflejaa
open Go.RowKit Go.Joins

theorem blocks1 (w : World) (A : Obj) : ∃ W, W = w.alloc A ∧ W.heap.size = w.heap.size + 1 ∧ W.heap[w.heap.size]? = some A ∧ Below w.heap.size w W :=
  ⟨_, rfl, by simp, heap_alloc_new w A, (Below.refl _ _).alloc (Nat.le_refl _) _⟩
theorem blocks2 (w : World) (A B : Obj) : ∃ W, W = (w.alloc A).alloc B ∧ W.heap.size = w.heap.size + 2 ∧ W.heap[w.heap.size]? = some A ∧ W.heap[w.heap.size + 1]? = some B ∧ Below w.heap.size w W := by
  obtain ⟨W1, h1, s1, a1, k1⟩ := blocks1 w A
  obtain ⟨W2, h2, s2, a2, k2⟩ := blocks1 W1 B
  refine ⟨W2, by rw [h2, h1], by omega, ?_, by rw [← s1]; exact a2, k1.trans (k2.mono (by omega))⟩
  rw [k2.block _ (by omega)]; exact a1
theorem blocks3 (w : World) (A B C : Obj) : ∃ W, W = ((w.alloc A).alloc B).alloc C ∧ W.heap.size = w.heap.size + 3 ∧ W.heap[w.heap.size]? = some A ∧ W.heap[w.heap.size + 1]? = some B ∧ W.heap[w.heap.size + 2]? = some C ∧ Below w.heap.size w W := by
  obtain ⟨W1, h1, s1, a1, b1, k1⟩ := blocks2 w A B
  obtain ⟨W2, h2, s2, a2, k2⟩ := blocks1 W1 C
  refine ⟨W2, by rw [h2, h1], by omega, ?_, ?_, by rw [← s1]; exact a2, k1.trans (k2.mono (by omega))⟩
  · rw [k2.block _ (by omega)]; exact a1
  · rw [k2.block _ (by omega)]; exact b1
theorem blocks4 (w : World) (A B C D : Obj) : ∃ W, W = (((w.alloc A).alloc B).alloc C).alloc D ∧ W.heap.size = w.heap.size + 4 ∧ W.heap[w.heap.size]? = some A ∧ W.heap[w.heap.size + 1]? = some B ∧ W.heap[w.heap.size + 2]? = some C ∧ W.heap[w.heap.size + 3]? = some D ∧ Below w.heap.size w W := by
  obtain ⟨W1, h1, s1, a1, b1, c1, k1⟩ := blocks3 w A B C
  obtain ⟨W2, h2, s2, a2, k2⟩ := blocks1 W1 D
  refine ⟨W2, by rw [h2, h1], by omega, ?_, ?_, ?_, by rw [← s1]; exact a2, k1.trans (k2.mono (by omega))⟩
  · rw [k2.block _ (by omega)]; exact a1
  · rw [k2.block _ (by omega)]; exact b1
  · rw [k2.block _ (by omega)]; exact c1

/-- A block that was there is there still. -/
theorem carryB {W w1 : World} {B b : Nat} {o : Obj} (k : Below B W w1) (hb : b < B) (h : W.heap[b]? = some o) : w1.heap[b]? = some o := (k.block b hb).trans h

theorem IsBytes.below {w w' : World} {v : Value} {z : Bts} (h : IsBytes w v z) (k : Below w.heap.size w w') : IsBytes w' v z := by
  obtain ⟨h1, h2, h3, h4⟩ := h
  refine ⟨h1, h2, h3, fun i hi => ?_⟩
  obtain ⟨b, off, x, q1, q2, q3, q4, q5⟩ := h4 i hi
  exact ⟨b, off, x, q1, Nat.lt_of_lt_of_le q2 k.size, q3, q4, by rw [k.cell (p := ⟨b, off + i, none⟩) q2]; exact q5⟩
end Go.Proofs.Ytgdhieffjflejaa
