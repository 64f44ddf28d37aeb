/- Contracts of l8Copy, l2Copy, and of the program's copyOf; condition: small sizes. -/
import Derived.Test.YtilldpoleiippaaGreatDoorClone
set_option linter.unusedSimpArgs false
set_option linter.unusedVariables false
namespace Go.Proofs.YtilldpoleiippaaGreatDoor
open Go.RowKit Go.Joins

theorem IsSl.rowsAt {α : Type} {w w' : World} {a : Option Addr} {n c k : Nat} {R : α → List Value} {zs : List α} (h : IsSl w (.slice a n c) k R zs) (hb : Below w.heap.size w w') : RowsAt w' a k R zs := h.bounds.2.2.2.below hb

/-- A client's lists in blocks of their own. -/
def OwnAh (w : World) (B : Nat) (v : Value) (z : Ah) : Prop :=
  ∃ a0 c0 a1 c1, v = .agg #[.slice a0 z.dn.length c0, .slice a1 z.wt.length c1, .int .i64 z.bk] ∧ Row w B 79 a0 c0 5 Rq.cs z.dn ∧ Row w B 79 a1 c1 5 Rq.cs z.wt ∧ (∀ g, rowBlk a0 c0 = some g → rowBlk a1 c1 ≠ some g)

/-- A game's lists in blocks of their own. -/
def OwnGm (w : World) (B : Nat) (v : Value) (z : Gm) : Prop :=
  ∃ a0 c0 a1 c1 a2 c2, v = .agg #[.slice a0 z.es.length c0, .slice a1 z.fl.length c1, .slice a2 z.la.length c2] ∧ Row w B 44 a0 c0 5 Rq.cs z.es ∧ Row w B 3 a1 c1 1 intR z.fl ∧ Row w B 3 a2 c2 1 intR z.la ∧
    (∀ g, rowBlk a0 c0 = some g → rowBlk a1 c1 ≠ some g) ∧ (∀ g, rowBlk a0 c0 = some g → rowBlk a2 c2 ≠ some g) ∧ (∀ g, rowBlk a1 c1 = some g → rowBlk a2 c2 ≠ some g)

/-- What clone leaves, as what append leaves. -/
theorem Cloned.row {α : Type} {el k n : Nat} {R : α → List Value} {zs : List α} {w w' : World} {e : Ending} (h : Cloned el k n R zs w e w') : ∃ a', e = .returned (.slice a' n n) ∧ Row w' w.heap.size el a' n k R zs ∧ Below w.heap.size w w' := h
theorem Row.apart {α β : Type} {w : World} {B e k cap e2 k2 cap2 : Nat} {B2 : Nat} {a a2 : Option Addr} {R : α → List Value} {R2 : β → List Value} {zs : List α} {ys : List β} {wo : World} (h : Row w B e a cap k R zs) (r : Row wo B2 e2 a2 cap2 k2 R2 ys) (hs : wo.heap.size ≤ B) : ∀ g, rowBlk a2 cap2 = some g → rowBlk a cap ≠ some g := by
  intro g h1 h2
  have := (r.blk h1).2
  have := (h.blk h2).1
  omega
end Go.Proofs.YtilldpoleiippaaGreatDoor
