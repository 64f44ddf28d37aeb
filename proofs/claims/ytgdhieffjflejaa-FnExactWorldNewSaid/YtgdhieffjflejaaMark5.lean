/- Contracts of markReqS, markEntS, heldReqS, heldEntS; marks over rows of the program's own; condition: small numbers. -/
import Derived.Test.YtgdhieffjflejaaMark
import Derived.Test.YtgdhieffjflejaaClone
set_option linter.unusedSimpArgs false
set_option linter.unusedVariables false
namespace Go.Proofs.Ytgdhieffjflejaa
open Go.RowKit Go.Joins

/-- Five stores, one behind the other, into the cells from j on. -/
theorem five_stores (w : World) (f j : Nat) (v0 v1 v2 v3 v4 : Value) (h0 : (w.cell? ⟨f, j, none⟩).isSome = true) (h1 : (w.cell? ⟨f, j + 1, none⟩).isSome = true) (h2 : (w.cell? ⟨f, j + 2, none⟩).isSome = true) (h3 : (w.cell? ⟨f, j + 3, none⟩).isSome = true) (h4 : (w.cell? ⟨f, j + 4, none⟩).isSome = true) :
    ∃ W, W = ((((w.setCell ⟨f, j, none⟩ v0).setCell ⟨f, j + 1, none⟩ v1).setCell ⟨f, j + 2, none⟩ v2).setCell ⟨f, j + 3, none⟩ v3).setCell ⟨f, j + 4, none⟩ v4 ∧
      W.cell? ⟨f, j, none⟩ = some v0 ∧ W.cell? ⟨f, j + 1, none⟩ = some v1 ∧ W.cell? ⟨f, j + 2, none⟩ = some v2 ∧ W.cell? ⟨f, j + 3, none⟩ = some v3 ∧ W.cell? ⟨f, j + 4, none⟩ = some v4 ∧
      (∀ i, i < j ∨ j + 5 ≤ i → W.cell? ⟨f, i, none⟩ = w.cell? ⟨f, i, none⟩) ∧ OnlyBlock f w W := by
  refine ⟨_, rfl, ?_, ?_, ?_, ?_, ?_, fun i hi => ?_, ((((((OnlyBlock.refl f w).set _ _).set _ _).set _ _).set _ _).set _ _)⟩
  · rw [World.cell?_setCell_other (h := by simp), World.cell?_setCell_other (h := by simp), World.cell?_setCell_other (h := by simp), World.cell?_setCell_other (h := by simp), World.cell?_setCell_same' _ _ _ h0]
  · rw [World.cell?_setCell_other (h := by simp), World.cell?_setCell_other (h := by simp), World.cell?_setCell_other (h := by simp), World.cell?_setCell_same' _ _ _ (by rw [World.cell?_setCell_other (h := by simp)]; exact h1)]
  · rw [World.cell?_setCell_other (h := by simp), World.cell?_setCell_other (h := by simp), World.cell?_setCell_same' _ _ _ (by rw [World.cell?_setCell_other (h := by simp), World.cell?_setCell_other (h := by simp)]; exact h2)]
  · rw [World.cell?_setCell_other (h := by simp), World.cell?_setCell_same' _ _ _ (by rw [World.cell?_setCell_other (h := by simp), World.cell?_setCell_other (h := by simp), World.cell?_setCell_other (h := by simp)]; exact h3)]
  · rw [World.cell?_setCell_same' _ _ _ (by rw [World.cell?_setCell_other (h := by simp), World.cell?_setCell_other (h := by simp), World.cell?_setCell_other (h := by simp), World.cell?_setCell_other (h := by simp)]; exact h4)]
  · rw [World.cell?_setCell_other (h := by simp <;> omega), World.cell?_setCell_other (h := by simp <;> omega), World.cell?_setCell_other (h := by simp <;> omega), World.cell?_setCell_other (h := by simp <;> omega), World.cell?_setCell_other (h := by simp <;> omega)]
theorem OnlyBlock.trans {f : Nat} {a b c : World} (h : OnlyBlock f a b) (k : OnlyBlock f b c) : OnlyBlock f a c :=
  ⟨fun x hx => (k.others x hx).trans (h.others x hx), k.size.trans h.size, fun j => (k.frozen j).trans (h.frozen j), h.below.trans k.below⟩

/-- A row's cells, numbered from m on; nothing else has turned. -/
structure MarkedRow (a : Option Addr) (n k : Nat) (m : Int) (w w' : World) : Prop where
  cells : ∀ g, rowBlk a n = some g → ∀ j, j < n * k → w'.cell? ⟨g, j, none⟩ = some (.int .i64 (m + j))
  grown : w.grownBy w' (rowBlk a n)
  size : w'.heap.size = w.heap.size
theorem OnlyBlock.grownBy {g : Nat} {w w' : World} (h : OnlyBlock g w w') : w.grownBy w' (some g) :=
  ⟨h.below.os, h.below.tape, h.below.output, Nat.le_of_eq h.size.symm, fun b _ hb => h.others b (fun e => hb (by rw [e]))⟩
theorem Row.cellsOf {α : Type} {w : World} {B e n k : Nat} {a : Option Addr} {R : α → List Value} {zs : List α} (h : Row w B e a n k R zs) (hn : zs.length = n) (hR : ∀ z, (R z).length = k) (hp : 0 < n) :
    ∃ g, a = some ⟨g, 0, none⟩ ∧ rowBlk a n = some g ∧ (∀ j, j < n * k → ∃ v, w.cell? ⟨g, j, none⟩ = some v) ∧ ∀ j, w.frozen? ⟨g, j, none⟩ = false := by
  obtain ⟨g, cur, rfl, h2, h3, h4, h5⟩ := h.own hp
  refine ⟨g, rfl, by simp [rowBlk]; omega, fun j hj => ⟨_, (cell_of_block h3 j).trans (Array.getElem?_eq_getElem (by omega))⟩, fun j => unfrozen_of_block h3 j⟩


end Go.Proofs.Ytgdhieffjflejaa
