/- A game's rows, apart from some blocks that were there before; no program; no condition. -/
import Derived.Test.YtilldpoleiippaaGreatDoorOwnG
set_option linter.unusedSimpArgs false
set_option linter.unusedVariables false
namespace Go.Proofs.YtilldpoleiippaaGreatDoor
open Go.RowKit Go.Joins

/-- A game's three rows in blocks of their own, from B on; the floor's and the numbers' are none of the blocks X, all of which are there. -/
structure OwnX (X : Nat → Prop) (w : World) (B : Nat) (a0 : Option Addr) (c0 : Nat) (a1 : Option Addr) (c1 : Nat) (a2 : Option Addr) (c2 : Nat) (z : Gm) : Prop extends Own3 w B a0 c0 a1 c1 a2 c2 z where
  no1 : ∀ g, rowBlk a1 c1 = some g → ¬ X g
  no2 : ∀ g, rowBlk a2 c2 = some g → ¬ X g
  lim : ∀ g, X g → g < w.heap.size
def OwnGX (X : Nat → Prop) (w : World) (B : Nat) (v : Value) (z : Gm) : Prop :=
  ∃ a0 c0 a1 c1 a2 c2, v = .agg #[.slice a0 z.es.length c0, .slice a1 z.fl.length c1, .slice a2 z.la.length c2] ∧ OwnX X w B a0 c0 a1 c1 a2 c2 z
section
variable {X : Nat → Prop} {w w' : World} {B : Nat} {a0 a1 a2 : Option Addr} {c0 c1 c2 : Nat} {z : Gm}
theorem Own3.noX (h : Own3 w B a0 c0 a1 c1 a2 c2 z) : OwnX (fun _ => False) w B a0 c0 a1 c1 a2 c2 z := ⟨h, fun _ _ q => q, fun _ _ q => q, fun _ q => q.elim⟩
theorem OwnX.gm (h : OwnX X w B a0 c0 a1 c1 a2 c2 z) : OwnGX X w B (.agg #[.slice a0 z.es.length c0, .slice a1 z.fl.length c1, .slice a2 z.la.length c2]) z := ⟨a0, c0, a1, c1, a2, c2, rfl, h⟩
theorem OwnX.gmV {n0 n1 n2 : Nat} (h : OwnX X w B a0 c0 a1 c1 a2 c2 z) (h0 : z.es.length = n0) (h1 : z.fl.length = n1) (h2 : z.la.length = n2) : OwnGX X w B (.agg #[.slice a0 n0 c0, .slice a1 n1 c1, .slice a2 n2 c2]) z := by
  subst h0 h1 h2
  exact h.gm
theorem OwnGX.rows {v : Value} (h : OwnGX X w B v z) : ∃ a0 c0 a1 c1 a2 c2, v = .agg #[.slice a0 z.es.length c0, .slice a1 z.fl.length c1, .slice a2 z.la.length c2] ∧ OwnX X w B a0 c0 a1 c1 a2 c2 z := h
theorem OwnGX.own {v : Value} (h : OwnGX X w B v z) : OwnGm w B v z := by
  obtain ⟨a0, c0, a1, c1, a2, c2, rfl, o⟩ := h
  exact o.toOwn3.gm
theorem OwnGm.noX {v : Value} (h : OwnGm w B v z) : OwnGX (fun _ => False) w B v z := by
  obtain ⟨a0, c0, a1, c1, a2, c2, rfl, o⟩ := h.rows
  exact o.noX.gm
theorem OwnX.below (h : OwnX X w B a0 c0 a1 c1 a2 c2 z) (k : Below w.heap.size w w') : OwnX X w' B a0 c0 a1 c1 a2 c2 z :=
  ⟨h.toOwn3.below k, h.no1, h.no2, fun g hg => Nat.lt_of_lt_of_le (h.lim g hg) k.size⟩
theorem OwnX.newE {B' c : Nat} {a : Option Addr} {es : List Rq} (h : OwnX X w B a0 c0 a1 c1 a2 c2 z) (k : Below w.heap.size w w') (r : Row w' B' 44 a c 5 Rq.cs es) (hB : w.heap.size ≤ B') (hb : B ≤ w.heap.size) : OwnX X w' B a c a1 c1 a2 c2 ⟨es, z.fl, z.la⟩ :=
  ⟨h.toOwn3.newE k r hB hb, h.no1, h.no2, fun g hg => Nat.lt_of_lt_of_le (h.lim g hg) k.size⟩
theorem OwnX.newF {B' c : Nat} {a : Option Addr} {fs : List Int} (h : OwnX X w B a0 c0 a1 c1 a2 c2 z) (k : Below w.heap.size w w') (r : Row w' B' 3 a c 1 intR fs) (hB : w.heap.size ≤ B') (hb : B ≤ w.heap.size) : OwnX X w' B a0 c0 a c a2 c2 ⟨z.es, fs, z.la⟩ :=
  ⟨h.toOwn3.newF k r hB hb, fun g hg q => by have := (r.blk hg).1; have := h.lim g q; omega, h.no2, fun g hg => Nat.lt_of_lt_of_le (h.lim g hg) k.size⟩
theorem OwnX.newL {B' c : Nat} {a : Option Addr} {ls : List Int} (h : OwnX X w B a0 c0 a1 c1 a2 c2 z) (k : Below w.heap.size w w') (r : Row w' B' 3 a c 1 intR ls) (hB : w.heap.size ≤ B') (hb : B ≤ w.heap.size) : OwnX X w' B a0 c0 a1 c1 a c ⟨z.es, z.fl, ls⟩ :=
  ⟨h.toOwn3.newL k r hB hb, h.no1, fun g hg q => by have := (r.blk hg).1; have := h.lim g q; omega, fun g hg => Nat.lt_of_lt_of_le (h.lim g hg) k.size⟩
theorem OwnX.newEF {B1 B2 c c' : Nat} {a a' : Option Addr} {es : List Rq} {fs : List Int} (h : OwnX X w B a0 c0 a1 c1 a2 c2 z) (k : Below w.heap.size w w') (r : Row w' B1 44 a c 5 Rq.cs es) (q : Row w' B2 3 a' c' 1 intR fs) (h1 : w.heap.size ≤ B1) (h2 : w.heap.size ≤ B2) (hb : B ≤ w.heap.size)
    (hap : ∀ g, rowBlk a c = some g → rowBlk a' c' ≠ some g) : OwnX X w' B a c a' c' a2 c2 ⟨es, fs, z.la⟩ :=
  ⟨h.toOwn3.newEF k r q h1 h2 hb hap, fun g hg p => by have := (q.blk hg).1; have := h.lim g p; omega, h.no2, fun g hg => Nat.lt_of_lt_of_le (h.lim g hg) k.size⟩
theorem OwnX.setType {G : Nat} {cs : Array Value} {T : TypeId} {fr : Nat × Nat} (h : OwnX X w B a0 c0 a1 c1 a2 c2 z) (hG : w.heap[G]? = some (.cells cs T fr)) (hT : T ≠ 44) (hI : T ≠ 3) (i : Nat) (v : Value) : OwnX X (w.setCell ⟨G, i, none⟩ v) B a0 c0 a1 c1 a2 c2 z :=
  ⟨h.toOwn3.setType hG hT hI i v, h.no1, h.no2, fun g hg => by simpa using h.lim g hg⟩
theorem OwnX.drew (h : OwnX X w B a0 c0 a1 c1 a2 c2 z) : OwnX X w.drew B a0 c0 a1 c1 a2 c2 z := ⟨h.toOwn3.drew, h.no1, h.no2, h.lim⟩
theorem OwnX.set3 {G : Nat} {cs : Array Value} (h : OwnX X w B a0 c0 a1 c1 a2 c2 z) (hG : w.heap[G]? = some (.cells cs 27 (0, 0))) (x y u : Value) : OwnX X (((w.setCell ⟨G, 0, none⟩ x).setCell ⟨G, 1, none⟩ y).setCell ⟨G, 2, none⟩ u) B a0 c0 a1 c1 a2 c2 z :=
  ⟨h.toOwn3.set3 hG x y u, h.no1, h.no2, fun g hg => by simpa using h.lim g hg⟩
end
/-- A game and a number, in such rows. -/
def RetX (X : Nat → Prop) (B : Nat) (z : Gm) (c : Int) (w : World) (e : Ending) (w' : World) : Prop :=
  ∃ v, e = .returned (.tuple #[v, .int .i64 c]) ∧ OwnGX X w' B v z ∧ Below w.heap.size w w'
end Go.Proofs.YtilldpoleiippaaGreatDoor
