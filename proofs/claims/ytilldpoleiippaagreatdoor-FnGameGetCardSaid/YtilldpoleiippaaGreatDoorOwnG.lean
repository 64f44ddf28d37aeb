/- A game in rows of its own: three rows apart from each other, kept, and one of them made anew; no condition. -/
import Derived.Test.YtilldpoleiippaaGreatDoorCopyG
import Derived.Test.YtilldpoleiippaaGreatDoorDelete
import Derived.Test.YtilldpoleiippaaGreatDoorRowSet
import Derived.Test.YtilldpoleiippaaGreatDoorFig
set_option linter.unusedSimpArgs false
set_option linter.unusedVariables false
namespace Go.Proofs.YtilldpoleiippaaGreatDoor
open Go.RowKit Go.Joins

/-- A game's three rows, each in a block of its own, from B on. -/
structure Own3 (w : World) (B : Nat) (a0 : Option Addr) (c0 : Nat) (a1 : Option Addr) (c1 : Nat) (a2 : Option Addr) (c2 : Nat) (z : Gm) : Prop where
  e : Row w B 44 a0 c0 5 Rq.cs z.es
  f : Row w B 3 a1 c1 1 intR z.fl
  l : Row w B 3 a2 c2 1 intR z.la
  ef : ∀ g, rowBlk a0 c0 = some g → rowBlk a1 c1 ≠ some g
  el : ∀ g, rowBlk a0 c0 = some g → rowBlk a2 c2 ≠ some g
  fl : ∀ g, rowBlk a1 c1 = some g → rowBlk a2 c2 ≠ some g

section
variable {w w' : World} {B : Nat} {a0 a1 a2 : Option Addr} {c0 c1 c2 : Nat} {z : Gm}
theorem Own3.gm (h : Own3 w B a0 c0 a1 c1 a2 c2 z) : OwnGm w B (.agg #[.slice a0 z.es.length c0, .slice a1 z.fl.length c1, .slice a2 z.la.length c2]) z :=
  ⟨a0, c0, a1, c1, a2, c2, rfl, h.e, h.f, h.l, h.ef, h.el, h.fl⟩
theorem OwnGm.rows {v : Value} (h : OwnGm w B v z) : ∃ a0 c0 a1 c1 a2 c2, v = .agg #[.slice a0 z.es.length c0, .slice a1 z.fl.length c1, .slice a2 z.la.length c2] ∧ Own3 w B a0 c0 a1 c1 a2 c2 z := by
  obtain ⟨a0, c0, a1, c1, a2, c2, hv, h1, h2, h3, h4, h5, h6⟩ := h
  exact ⟨a0, c0, a1, c1, a2, c2, hv, h1, h2, h3, h4, h5, h6⟩
theorem RowsAt.takeG {α : Type} {w : World} {a : Option Addr} {k : Nat} {R : α → List Value} {zs : List α} (h : RowsAt w a k R zs) (i : Nat) : RowsAt w a k R (zs.take i) := by
  intro j hj
  rw [List.length_take] at hj
  obtain ⟨b, off, q, hb, hc⟩ := h j (by omega)
  refine ⟨b, off, q, hb, fun t ht => ?_⟩
  rw [List.getElem_take]
  exact hc t ht
theorem RowsAt.tailG {α : Type} {w : World} {g off k : Nat} {R : α → List Value} {zs : List α} (h : RowsAt w (some ⟨g, off, none⟩) k R zs) (i c : Nat) (hc : c = i → zs.length ≤ i) : RowsAt w (if c = i then some ⟨g, off, none⟩ else some ⟨g, off + i * k, none⟩) k R (zs.drop i) := by
  split
  · rename_i he
    rw [List.drop_eq_nil_of_le (hc he)]
    exact RowsAt.empty _ _ _ _
  · exact h.drop i
theorem Row.slG {α : Type} {w : World} {B e cap k n : Nat} {a : Option Addr} {R : α → List Value} {zs : List α} (h : Row w B e a cap k R zs) (hR : ∀ z, (R z).length = k) (hn : zs.length = n) : IsSl w (.slice a n cap) k R zs := hn ▸ h.sl hR
theorem Own3.below (h : Own3 w B a0 c0 a1 c1 a2 c2 z) (k : Below w.heap.size w w') : Own3 w' B a0 c0 a1 c1 a2 c2 z :=
  ⟨h.e.below k, h.f.below k, h.l.below k, h.ef, h.el, h.fl⟩
theorem Own3.low {B' : Nat} (h : Own3 w B a0 c0 a1 c1 a2 c2 z) (k : B' ≤ B) : Own3 w B' a0 c0 a1 c1 a2 c2 z :=
  ⟨h.e.low k, h.f.low k, h.l.low k, h.ef, h.el, h.fl⟩
/-- One row made anew, behind all that was there. -/
theorem Own3.newE {B' c : Nat} {a : Option Addr} {es : List Rq} (h : Own3 w B a0 c0 a1 c1 a2 c2 z) (k : Below w.heap.size w w') (r : Row w' B' 44 a c 5 Rq.cs es) (hB : w.heap.size ≤ B') (hb : B ≤ w.heap.size) : Own3 w' B a c a1 c1 a2 c2 ⟨es, z.fl, z.la⟩ :=
  ⟨r.low (Nat.le_trans hb hB), h.f.below k, h.l.below k, fun g h1 h2 => by have := (r.blk h1).1; have := (h.f.blk h2).2; omega, fun g h1 h2 => by have := (r.blk h1).1; have := (h.l.blk h2).2; omega, h.fl⟩
theorem Own3.newF {B' c : Nat} {a : Option Addr} {fs : List Int} (h : Own3 w B a0 c0 a1 c1 a2 c2 z) (k : Below w.heap.size w w') (r : Row w' B' 3 a c 1 intR fs) (hB : w.heap.size ≤ B') (hb : B ≤ w.heap.size) : Own3 w' B a0 c0 a c a2 c2 ⟨z.es, fs, z.la⟩ :=
  ⟨h.e.below k, r.low (Nat.le_trans hb hB), h.l.below k, fun g h1 h2 => by have := (r.blk h2).1; have := (h.e.blk h1).2; omega, h.el, fun g h1 h2 => by have := (r.blk h1).1; have := (h.l.blk h2).2; omega⟩
theorem Own3.newL {B' c : Nat} {a : Option Addr} {ls : List Int} (h : Own3 w B a0 c0 a1 c1 a2 c2 z) (k : Below w.heap.size w w') (r : Row w' B' 3 a c 1 intR ls) (hB : w.heap.size ≤ B') (hb : B ≤ w.heap.size) : Own3 w' B a0 c0 a1 c1 a c ⟨z.es, z.fl, ls⟩ :=
  ⟨h.e.below k, h.f.below k, r.low (Nat.le_trans hb hB), h.ef, fun g h1 h2 => by have := (r.blk h2).1; have := (h.e.blk h1).2; omega, fun g h1 h2 => by have := (r.blk h2).1; have := (h.f.blk h1).2; omega⟩
theorem Own3.newEF {B1 B2 c c' : Nat} {a a' : Option Addr} {es : List Rq} {fs : List Int} (h : Own3 w B a0 c0 a1 c1 a2 c2 z) (k : Below w.heap.size w w') (r : Row w' B1 44 a c 5 Rq.cs es) (q : Row w' B2 3 a' c' 1 intR fs) (h1 : w.heap.size ≤ B1) (h2 : w.heap.size ≤ B2) (hb : B ≤ w.heap.size)
    (hap : ∀ g, rowBlk a c = some g → rowBlk a' c' ≠ some g) : Own3 w' B a c a' c' a2 c2 ⟨es, fs, z.la⟩ :=
  ⟨r.low (Nat.le_trans hb h1), q.low (Nat.le_trans hb h2), h.l.below k, hap, fun g e1 e2 => by have := (r.blk e1).1; have := (h.l.blk e2).2; omega, fun g e1 e2 => by have := (q.blk e1).1; have := (h.l.blk e2).2; omega⟩
end
/-- A store into a block of another type. -/
theorem Row.setType {α : Type} {w : World} {B e cap k G : Nat} {a : Option Addr} {R : α → List Value} {zs : List α} {cs : Array Value} {T : TypeId} {fr : Nat × Nat} (h : Row w B e a cap k R zs) (hG : w.heap[G]? = some (.cells cs T fr)) (hT : T ≠ e) (i : Nat) (v : Value) : Row (w.setCell ⟨G, i, none⟩ v) B e a cap k R zs :=
  h.setNe (fun g hg q => by
    unfold rowBlk at hg
    split at hg
    · cases hg
    · obtain ⟨g', cur, rfl, -, h3, -⟩ := h.own (by omega)
      simp at hg
      subst hg
      have q' : g' = G := q
      subst q'
      rw [h3] at hG
      injection hG with hG
      injection hG with h1 h2
      exact hT h2.symm) v
section
variable {w w' : World} {B : Nat} {a0 a1 a2 : Option Addr} {c0 c1 c2 : Nat} {z : Gm}
theorem Own3.setType {G : Nat} {cs : Array Value} {T : TypeId} {fr : Nat × Nat} (h : Own3 w B a0 c0 a1 c1 a2 c2 z) (hG : w.heap[G]? = some (.cells cs T fr)) (hT : T ≠ 44) (hI : T ≠ 3) (i : Nat) (v : Value) : Own3 (w.setCell ⟨G, i, none⟩ v) B a0 c0 a1 c1 a2 c2 z :=
  ⟨h.e.setType hG hT i v, h.f.setType hG hI i v, h.l.setType hG hI i v, h.ef, h.el, h.fl⟩
theorem Own3.drew (h : Own3 w B a0 c0 a1 c1 a2 c2 z) : Own3 w.drew B a0 c0 a1 c1 a2 c2 z := ⟨h.e.drew, h.f.drew, h.l.drew, h.ef, h.el, h.fl⟩
/-- A whole game stored into a block. -/
theorem Own3.set3 {G : Nat} {cs : Array Value} (h : Own3 w B a0 c0 a1 c1 a2 c2 z) (hG : w.heap[G]? = some (.cells cs 27 (0, 0))) (x y u : Value) : Own3 (((w.setCell ⟨G, 0, none⟩ x).setCell ⟨G, 1, none⟩ y).setCell ⟨G, 2, none⟩ u) B a0 c0 a1 c1 a2 c2 z :=
  ((h.setType hG (by decide) (by decide) 0 x).setType (block_setCell hG x) (by decide) (by decide) 1 y).setType (block_setCell (block_setCell hG x) y) (by decide) (by decide) 2 u
theorem block_set3 {G : Nat} {p q r : Value} {T : TypeId} (hG : w.heap[G]? = some (.cells #[p, q, r] T (0, 0))) (x y u : Value) : (((w.setCell ⟨G, 0, none⟩ x).setCell ⟨G, 1, none⟩ y).setCell ⟨G, 2, none⟩ u).heap[G]? = some (.cells #[x, y, u] T (0, 0)) := by
  have h := block_setCell (i := 2) (block_setCell (i := 1) (block_setCell (i := 0) hG x) y) u
  simpa only [List.setIfInBounds_toArray, List.set] using h
theorem block_kept3 {G b : Nat} (hb : b ≠ G) (x y u : Value) : (((w.setCell ⟨G, 0, none⟩ x).setCell ⟨G, 1, none⟩ y).setCell ⟨G, 2, none⟩ u).heap[b]? = w.heap[b]? :=
  (Below.heap_setCell _ ⟨G, 2, none⟩ _ _ hb).trans ((Below.heap_setCell _ ⟨G, 1, none⟩ _ _ hb).trans (Below.heap_setCell _ ⟨G, 0, none⟩ _ _ hb))
theorem below_set3 {A : World} {D G : Nat} (h : Below D A w) (hG : D ≤ G) (x y u : Value) : Below D A (((w.setCell ⟨G, 0, none⟩ x).setCell ⟨G, 1, none⟩ y).setCell ⟨G, 2, none⟩ u) :=
  Below.setCell (Below.setCell (Below.setCell h hG _) hG _) hG _
end
/-- A number's cell in an own row. -/
theorem Row.intAt {w : World} {B e cap : Nat} {a : Option Addr} {zs : List Int} (h : Row w B e a cap 1 intR zs) {i : Nat} (hi : i < zs.length) : ∃ g, a = some ⟨g, 0, none⟩ ∧ B ≤ g ∧ g < w.heap.size ∧ w.cell? ⟨g, i, none⟩ = some (.int .i64 zs[i]) ∧ w.frozen? ⟨g, i, none⟩ = false ∧ rowBlk a cap = some g := by
  obtain ⟨g, cur, rfl, h2, h3, h4, h5⟩ := h.own (Nat.lt_of_lt_of_le (Nat.lt_of_le_of_lt (Nat.zero_le _) hi) h.len)
  have hf := flat_get int_len zs i hi 0 (by decide)
  refine ⟨g, rfl, h2, lt_of_block h3, ?_, unfrozen_of_block h3 i, by have := h.len; simp [rowBlk]; omega⟩
  rw [cell_of_block h3, h5 i (by omega)]
  rw [Nat.mul_one, Nat.add_zero] at hf
  exact hf
theorem Row.entAt {w : World} {B e cap : Nat} {a : Option Addr} {zs : List Rq} (h : Row w B e a cap 5 Rq.cs zs) {i : Nat} (hi : i < zs.length) : ∃ g, a = some ⟨g, 0, none⟩ ∧ B ≤ g ∧ g < w.heap.size ∧ w.cell? ⟨g, i * 5, none⟩ = some (.int .i64 zs[i].c) ∧ w.cell? ⟨g, i * 5 + 1, none⟩ = some (.int .i64 zs[i].n) ∧
    w.cell? ⟨g, i * 5 + 2, none⟩ = some (.int .i64 zs[i].o) ∧ w.cell? ⟨g, i * 5 + 3, none⟩ = some (.int .i64 zs[i].x) ∧ w.cell? ⟨g, i * 5 + 4, none⟩ = some (.int .i64 zs[i].y) ∧ (∀ j, w.frozen? ⟨g, j, none⟩ = false) ∧ rowBlk a cap = some g := by
  obtain ⟨g, cur, rfl, h2, h3, h4, h5⟩ := h.own (Nat.lt_of_lt_of_le (Nat.lt_of_le_of_lt (Nat.zero_le _) hi) h.len)
  have hf := fun j (hj : j < 5) => (h5 (i * 5 + j) (by omega)).trans (flat_get five_len zs i hi j hj)
  exact ⟨g, rfl, h2, lt_of_block h3, (cell_of_block h3 _).trans (hf 0 (by decide)), (cell_of_block h3 _).trans (hf 1 (by decide)), (cell_of_block h3 _).trans (hf 2 (by decide)), (cell_of_block h3 _).trans (hf 3 (by decide)), (cell_of_block h3 _).trans (hf 4 (by decide)), unfrozen_of_block h3, by have := h.len; simp [rowBlk]; omega⟩
/-- A whole figure stored into an own row. -/
def five5 (w : World) (g o : Nat) (z : Rq) : World := ((((w.setCell ⟨g, o, none⟩ (.int .i64 z.c)).setCell ⟨g, o + 1, none⟩ (.int .i64 z.n)).setCell ⟨g, o + 2, none⟩ (.int .i64 z.o)).setCell ⟨g, o + 3, none⟩ (.int .i64 z.x)).setCell ⟨g, o + 4, none⟩ (.int .i64 z.y)
theorem Row.setFive {w : World} {B e cap g : Nat} {zs : List Rq} (h : Row w B e (some ⟨g, 0, none⟩) cap 5 Rq.cs zs) {k : Nat} (hk : k < zs.length) (z : Rq) : Row (five5 w g (k * 5) z) B e (some ⟨g, 0, none⟩) cap 5 Rq.cs (zs.set k z) := by
  have T1 := h.setOne five_len hk (j := 0) (by decide) (⟨z.c, zs[k].n, zs[k].o, zs[k].x, zs[k].y⟩ : Rq) _ rfl (fun j' h1 h2 => by
    have : j' = 1 ∨ j' = 2 ∨ j' = 3 ∨ j' = 4 := by omega
    rcases this with rfl | rfl | rfl | rfl <;> rfl) rfl
  have T2 := T1.setOne five_len (i := k) (by simpa using hk) (j := 1) (by decide) (⟨z.c, z.n, zs[k].o, zs[k].x, zs[k].y⟩ : Rq) _ rfl (fun j' h1 h2 => by
    rw [List.getElem_set_self]
    have : j' = 0 ∨ j' = 2 ∨ j' = 3 ∨ j' = 4 := by omega
    rcases this with rfl | rfl | rfl | rfl <;> rfl) rfl
  have T3 := T2.setOne five_len (i := k) (by simpa using hk) (j := 2) (by decide) (⟨z.c, z.n, z.o, zs[k].x, zs[k].y⟩ : Rq) _ rfl (fun j' h1 h2 => by
    rw [List.getElem_set_self]
    have : j' = 0 ∨ j' = 1 ∨ j' = 3 ∨ j' = 4 := by omega
    rcases this with rfl | rfl | rfl | rfl <;> rfl) rfl
  have T4 := T3.setOne five_len (i := k) (by simpa using hk) (j := 3) (by decide) (⟨z.c, z.n, z.o, z.x, zs[k].y⟩ : Rq) _ rfl (fun j' h1 h2 => by
    rw [List.getElem_set_self]
    have : j' = 0 ∨ j' = 1 ∨ j' = 2 ∨ j' = 4 := by omega
    rcases this with rfl | rfl | rfl | rfl <;> rfl) rfl
  have T5 := T4.setOne five_len (i := k) (by simpa using hk) (j := 4) (by decide) z _ rfl (fun j' h1 h2 => by
    rw [List.getElem_set_self]
    have : j' = 0 ∨ j' = 1 ∨ j' = 2 ∨ j' = 3 := by omega
    rcases this with rfl | rfl | rfl | rfl <;> rfl) rfl
  simp only [List.set_set] at T5
  exact T5
theorem block_kept5 {w : World} {g o b : Nat} (hb : b ≠ g) (z : Rq) : (five5 w g o z).heap[b]? = w.heap[b]? :=
  (Below.heap_setCell _ ⟨g, o + 4, none⟩ _ _ hb).trans ((Below.heap_setCell _ ⟨g, o + 3, none⟩ _ _ hb).trans ((Below.heap_setCell _ ⟨g, o + 2, none⟩ _ _ hb).trans ((Below.heap_setCell _ ⟨g, o + 1, none⟩ _ _ hb).trans (Below.heap_setCell _ ⟨g, o, none⟩ _ _ hb))))
theorem below_set5 {A w : World} {D g : Nat} (h : Below D A w) (hg : D ≤ g) (o : Nat) (z : Rq) : Below D A (five5 w g o z) :=
  Below.setCell (Below.setCell (Below.setCell (Below.setCell (Below.setCell h hg _) hg _) hg _) hg _) hg _
/-- A number stored into an own row. -/
theorem Row.setInt {w : World} {B e cap g : Nat} {zs : List Int} (h : Row w B e (some ⟨g, 0, none⟩) cap 1 intR zs) {i : Nat} (hi : i < zs.length) (x : Int) : Row (w.setCell ⟨g, i, none⟩ (.int .i64 x)) B e (some ⟨g, 0, none⟩) cap 1 intR (zs.set i x) := by
  have := h.setOne int_len (i := i) (j := 0) hi (by decide) x (.int .i64 x) rfl (fun j' h1 h2 => by omega) rfl
  simpa using this
end Go.Proofs.YtilldpoleiippaaGreatDoor
