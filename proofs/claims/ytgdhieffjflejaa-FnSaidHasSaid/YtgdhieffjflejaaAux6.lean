/- A block of eleven cells stored; a variable's block beside an append; letters as their cells; no condition. -/
import Derived.Test.YtgdhieffjflejaaK9
set_option linter.unusedSimpArgs false
set_option linter.unusedVariables false
namespace Go.Proofs.Ytgdhieffjflejaa
open Go.RowKit Go.Joins

theorem stored11 (w : World) (g : Nat) (o0 o1 o2 o3 o4 o5 o6 o7 o8 o9 o10 v0 v1 v2 v3 v4 v5 v6 v7 v8 v9 v10 : Value) {t : TypeId} (h : w.heap[g]? = some (.cells #[o0, o1, o2, o3, o4, o5, o6, o7, o8, o9, o10] t (0, 0))) :
    ∃ W, W = (((((((((((w.setCell ⟨g, 0, none⟩ v0).setCell ⟨g, 1, none⟩ v1).setCell ⟨g, 2, none⟩ v2).setCell ⟨g, 3, none⟩ v3).setCell ⟨g, 4, none⟩ v4).setCell ⟨g, 5, none⟩ v5).setCell ⟨g, 6, none⟩ v6).setCell ⟨g, 7, none⟩ v7).setCell ⟨g, 8, none⟩ v8).setCell ⟨g, 9, none⟩ v9).setCell ⟨g, 10, none⟩ v10) ∧ W.heap.size = w.heap.size ∧
      W.heap[g]? = some (.cells #[v0, v1, v2, v3, v4, v5, v6, v7, v8, v9, v10] t (0, 0)) ∧ (∀ b, b ≠ g → W.heap[b]? = w.heap[b]?) ∧ Below g w W := by
  obtain ⟨W0, h0, s0, a0, n0, k0⟩ := stored1 w g 0 v0 h
  obtain ⟨W1, h1, s1, a1, n1, k1⟩ := stored1 W0 g 1 v1 a0
  obtain ⟨W2, h2, s2, a2, n2, k2⟩ := stored1 W1 g 2 v2 a1
  obtain ⟨W3, h3, s3, a3, n3, k3⟩ := stored1 W2 g 3 v3 a2
  obtain ⟨W4, h4, s4, a4, n4, k4⟩ := stored1 W3 g 4 v4 a3
  obtain ⟨W5, h5, s5, a5, n5, k5⟩ := stored1 W4 g 5 v5 a4
  obtain ⟨W6, h6, s6, a6, n6, k6⟩ := stored1 W5 g 6 v6 a5
  obtain ⟨W7, h7, s7, a7, n7, k7⟩ := stored1 W6 g 7 v7 a6
  obtain ⟨W8, h8, s8, a8, n8, k8⟩ := stored1 W7 g 8 v8 a7
  obtain ⟨W9, h9, s9, a9, n9, k9⟩ := stored1 W8 g 9 v9 a8
  obtain ⟨W10, h10, s10, a10, n10, k10⟩ := stored1 W9 g 10 v10 a9
  exact ⟨W10, by rw [h10, h9, h8, h7, h6, h5, h4, h3, h2, h1, h0], by omega, by simpa using a10, fun b hb => (n10 b hb).trans ((n9 b hb).trans ((n8 b hb).trans ((n7 b hb).trans ((n6 b hb).trans ((n5 b hb).trans ((n4 b hb).trans ((n3 b hb).trans ((n2 b hb).trans ((n1 b hb).trans (n0 b hb)))))))))), k0.trans (k1.trans (k2.trans (k3.trans (k4.trans (k5.trans (k6.trans (k7.trans (k8.trans (k9.trans k10)))))))))⟩
theorem BlkIs.grown {g : Nat} {cs : Array Value} {t : TypeId} {w w' : World} {row : Option Nat} (h : BlkIs g cs t w) (k : w.grownBy w' row) (hg : ∀ g', row = some g' → g' ≠ g) : BlkIs g cs t w' :=
  (k.block g (lt_of_block h) (fun e => hg g e.symm rfl)).trans h
theorem flat_m {m : Mg} {a b : Option Addr} {c d : Nat} (h1 : m.vc = .slice a m.cl.length c) (h2 : m.vv = .slice b m.vs.length d) : flat Mg.cs [m] = #[.int .i64 m.k, .int .i64 m.f, .int .i64 m.v, .int .i64 m.s, .int .i64 m.r.c, .int .i64 m.r.n, .int .i64 m.r.o, .int .i64 m.r.x, .int .i64 m.r.y, .slice a m.cl.length c, .slice b m.vs.length d] := by simp [flat, Mg.cs, h1, h2]
theorem isMg_sl {w : World} {m : Mg} {a b : Option Addr} {c d : Nat} (h1 : m.vc = .slice a m.cl.length c) (h2 : m.vv = .slice b m.vs.length d) (h : m.ok w) : IsMg w (.agg #[.int .i64 m.k, .int .i64 m.f, .int .i64 m.v, .int .i64 m.s, .int .i64 m.r.c, .int .i64 m.r.n, .int .i64 m.r.o, .int .i64 m.r.x, .int .i64 m.r.y, .slice a m.cl.length c, .slice b m.vs.length d]) m := ⟨by simp only [Mg.cs, h1, h2], h⟩
end Go.Proofs.Ytgdhieffjflejaa
