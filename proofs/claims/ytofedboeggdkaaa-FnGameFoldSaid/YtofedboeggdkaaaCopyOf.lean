/- Contracts of l8Copy, l2Copy, and of the program's copyOf; condition: small sizes. -/
import Derived.Test.YtofedboeggdkaaaClone
namespace Go.Proofs.Ytofedboeggdkaaa
open Go.RowKit Go.Joins

theorem IsSl.rowsAt {α : Type} {w w' : World} {a : Option Addr} {n c k : Nat} {R : α → List Value} {zs : List α} (h : IsSl w (.slice a n c) k R zs) (hb : Below w.heap.size w w') : RowsAt w' a k R zs := h.bounds.2.2.2.below hb

/-- A client's lists in blocks of their own. -/
def OwnAh (w : World) (B : Nat) (v : Value) (z : Ah) : Prop :=
  ∃ a0 c0 a1 c1, v = .agg #[.slice a0 z.dn.length c0, .slice a1 z.wt.length c1, .int .i64 z.bk] ∧ Row w B 34 a0 c0 5 Rq.cs z.dn ∧ Row w B 34 a1 c1 5 Rq.cs z.wt ∧ (∀ g, rowBlk a0 c0 = some g → rowBlk a1 c1 ≠ some g)

set_option maxRecDepth 100000 in
set_option maxHeartbeats 4000000 in
theorem l8Copy_c (z : Ah) (a0 a1 : Option Addr) (n0 n1 c0 c1 : Nat) (w : World) (h0 : IsSl w (.slice a0 n0 c0) 5 Rq.cs z.dn) (h1 : IsSl w (.slice a1 n1 c1) 5 Rq.cs z.wt) (hs0 : n0 ≤ 16777216) (hs1 : n1 ≤ 16777216) :
    Calls Try.prog 62 #[.agg #[.slice a0 n0 c0, .slice a1 n1 c1, .int .i64 z.bk]] w fun e w' => ∃ v, e = .returned v ∧ OwnAh w' w.heap.size v z ∧ Below w.heap.size w w' := by
  have hn0 := h0.bounds.1
  have hn1 := h1.bounds.1
  have H0 := Lib.hid h0
  have H1 := Lib.hid h1
  have hN0 := Lib.hid hn0
  have hN1 := Lib.hid hn1
  clear h0 h1 hn0 hn1
  go_enter Try.func62, Try.ntmps62
  go_wp2_with fail
  obtain ⟨W, hW, sW, aW, bW, kW⟩ := blocks2 w (.cells #[.slice a0 n0 c0, .slice a1 n1 c1, .int .i64 z.bk] 30) (.cells #[.slice none 0 0, .slice none 0 0, .int .i64 0] 30)
  rw [← hW]
  clear hW
  have hcA := cell_of_block aW
  have hcB := cell_of_block bW
  have hfB := unfrozen_of_block bW
  go_region_held3 (fun w' => ((∀ b o, b < w.heap.size + 1 → (w').cell? ⟨b, o, none⟩ = (W).cell? ⟨b, o, none⟩) ∧ Below (w.heap.size + 1) (W) (w')))
    (repeat' first | with_reducible exact KeptB.refl _ _ | with_reducible assumption | with_reducible exact KeptB.weak k6 (by omega) | with_reducible exact KeptB.weak k7 (by omega) | with_reducible refine KeptB.drew ?_ | with_reducible refine KeptB.alloc (by omega) _ ?_ | with_reducible refine KeptB.set (by simp <;> omega) _ ?_)
    (first
     | (refine step_append_new (w.heap.size + 2) (by rfl) (.tmp 3) (.tmp 5) (by rfl) eltReq (by rfl) (by rfl) (H0.out.rowsAt (kW.trans ((by assumption : _ ∧ Below _ _ _).2.mono (by omega)))) hN0.out (by simp only [maxLen]; omega) (by omega) (by rw [← sW]; exact (by assumption : _ ∧ Below _ _ _).2.size) ?_; intro a6 c6 w6 q6; have k6 := KeptB.next (B := W.heap.size) (W := W) (Nat.le_refl _) (by repeat' first | with_reducible exact KeptB.refl _ _ | with_reducible assumption | with_reducible refine KeptB.drew ?_ | with_reducible refine KeptB.alloc (by omega) _ ?_) q6.below; have cz6 := fun i => (k6.1 (w.heap.size + 1) i (by omega)).trans (hcB i); have fz6 : ∀ i, w6.frozen? ⟨w.heap.size + 1, i, none⟩ = false := fun i => (k6.2.frozen (p := ⟨w.heap.size + 1, i, none⟩) (by simp <;> omega)).trans (hfB i))
     | (refine step_append_new (w.heap.size + 2) (by rfl) (.tmp 7) (.tmp 9) (by rfl) eltReq (by rfl) (by rfl) (H1.out.rowsAt (kW.trans ((by assumption : _ ∧ Below _ _ _).2.mono (by omega)))) hN1.out (by simp only [maxLen]; omega) (by omega) (by rw [← sW]; exact (by assumption : _ ∧ Below _ _ _).2.size) ?_; intro a7 c7 w7 q7; have k7 := KeptB.next (B := W.heap.size) (W := W) (Nat.le_refl _) (by repeat' first | with_reducible exact KeptB.refl _ _ | with_reducible assumption | with_reducible refine KeptB.drew ?_ | with_reducible refine KeptB.alloc (by omega) _ ?_) q7.below; have cz7 := fun i => (k7.1 (w.heap.size + 1) i (by omega)).trans (hcB i); have fz7 : ∀ i, w7.frozen? ⟨w.heap.size + 1, i, none⟩ = false := fun i => (k7.2.frozen (p := ⟨w.heap.size + 1, i, none⟩) (by simp <;> omega)).trans (hfB i)))
  all_goals go_wp2_with fail
  all_goals clear aW bW hcA hcB hfB
  all_goals first
    | refine bodyPost_ret (v := .agg #[.slice a6 n0 c6, .slice a7 n1 c7, .int .i64 z.bk]) (by simp [results, Try.results62, go_sem, cz7]) rfl ?_
    | refine bodyPost_ret (v := .agg #[.slice a6 n0 c6, .slice a7 n1 c7, .int .i64 z.bk]) (by simp [results, Try.results62, go_sem, cz6]) rfl ?_
  all_goals clear cz6 cz7 fz6 fz7
  all_goals rw [← hN0.out, ← hN1.out]
  all_goals refine ⟨_, rfl, ⟨a6, c6, a7, c7, rfl, Row.low (B := w.heap.size + 2) ?_ (by omega), Row.low (B := w.heap.size + 2) ?_ (by omega), ?_⟩, ?_⟩
  all_goals first
    | (show Row _ _ _ a6 _ _ _ _; (repeat' (first | exact q6.row | with_reducible refine Row.setOther ?_ (by simp <;> omega) _ | with_reducible refine Row.alloc ?_ _ | with_reducible refine Row.drew ?_ | with_reducible refine Row.below ?_ q7.below)); done)
    | (show Row _ _ _ a7 _ _ _ _; (repeat' (first | exact q7.row | with_reducible refine Row.setOther ?_ (by simp <;> omega) _ | with_reducible refine Row.alloc ?_ _ | with_reducible refine Row.drew ?_ | with_reducible refine Row.below ?_ q6.below)); done)
    | (show ∀ g, _ → _; refine fun g h1 h2 => ?_; first | exact q7.apart q6.row g h2 h1 | exact q7.apart (q6.row.alloc _) g h2 h1 | exact q7.apart (q6.row.alloc _).drew g h2 h1)
    | (refine kW.trans ?_; (repeat' (first | with_reducible exact k7.2.mono (by omega) | with_reducible exact k6.2.mono (by omega) | with_reducible refine Below.setCell ?_ (by simp <;> omega) _)); done)

/-- A game's lists in blocks of their own. -/
def OwnGm (w : World) (B : Nat) (v : Value) (z : Gm) : Prop :=
  ∃ a0 c0 a1 c1 a2 c2, v = .agg #[.slice a0 z.es.length c0, .slice a1 z.fl.length c1, .slice a2 z.la.length c2] ∧ Row w B 92 a0 c0 5 Rq.cs z.es ∧ Row w B 3 a1 c1 1 intR z.fl ∧ Row w B 3 a2 c2 1 intR z.la ∧
    (∀ g, rowBlk a0 c0 = some g → rowBlk a1 c1 ≠ some g) ∧ (∀ g, rowBlk a0 c0 = some g → rowBlk a2 c2 ≠ some g) ∧ (∀ g, rowBlk a1 c1 = some g → rowBlk a2 c2 ≠ some g)

/-- What clone leaves, as what append leaves. -/
theorem Cloned.row {α : Type} {el k n : Nat} {R : α → List Value} {zs : List α} {w w' : World} {e : Ending} (h : Cloned el k n R zs w e w') : ∃ a', e = .returned (.slice a' n n) ∧ Row w' w.heap.size el a' n k R zs ∧ Below w.heap.size w w' := h
theorem Row.apart {α β : Type} {w : World} {B e k cap e2 k2 cap2 : Nat} {B2 : Nat} {a a2 : Option Addr} {R : α → List Value} {R2 : β → List Value} {zs : List α} {ys : List β} {wo : World} (h : Row w B e a cap k R zs) (r : Row wo B2 e2 a2 cap2 k2 R2 ys) (hs : wo.heap.size ≤ B) : ∀ g, rowBlk a2 cap2 = some g → rowBlk a cap ≠ some g := by
  intro g h1 h2
  have := (r.blk h1).2
  have := (h.blk h2).1
  omega
end Go.Proofs.Ytofedboeggdkaaa
