/- Letters copied (toMsg): the copy says the same; condition: lists of at most 2^20. -/
import Derived.Test.YtgdhieffjflejaaToVS
import Derived.Test.YtgdhieffjflejaaSzM
import Derived.Test.YtgdhieffjflejaaSameM
set_option linter.unusedSimpArgs false
set_option linter.unusedVariables false
namespace Go.Proofs.Ytgdhieffjflejaa
open Go.RowKit Go.Joins

theorem stored5 (w : World) (g i0 i1 i2 i3 i4 : Nat) (v0 v1 v2 v3 v4 : Value) {cs : Array Value} {t : TypeId} {fr : Nat × Nat} (h : w.heap[g]? = some (.cells cs t fr)) :
    ∃ W, W = ((((w.setCell ⟨g, i0, none⟩ v0).setCell ⟨g, i1, none⟩ v1).setCell ⟨g, i2, none⟩ v2).setCell ⟨g, i3, none⟩ v3).setCell ⟨g, i4, none⟩ v4 ∧ W.heap.size = w.heap.size ∧
      W.heap[g]? = some (.cells (((((cs.setIfInBounds i0 v0).setIfInBounds i1 v1).setIfInBounds i2 v2).setIfInBounds i3 v3).setIfInBounds i4 v4) t fr) ∧ (∀ b, b ≠ g → W.heap[b]? = w.heap[b]?) ∧ Below g w W := by
  obtain ⟨W0, h0, s0, a0, o0, k0⟩ := stored1 w g i0 v0 h
  obtain ⟨W1, h1, s1, a1, o1, k1⟩ := stored1 W0 g i1 v1 a0
  obtain ⟨W2, h2, s2, a2, o2, k2⟩ := stored1 W1 g i2 v2 a1
  obtain ⟨W3, h3, s3, a3, o3, k3⟩ := stored1 W2 g i3 v3 a2
  obtain ⟨W4, h4, s4, a4, o4, k4⟩ := stored1 W3 g i4 v4 a3
  exact ⟨W4, by rw [h4, h3, h2, h1, h0], by omega, a4, fun b hb => (o4 b hb).trans ((o3 b hb).trans ((o2 b hb).trans ((o1 b hb).trans (o0 b hb)))), k0.trans (k1.trans (k2.trans (k3.trans k4)))⟩

/-- What the copy of a letter gives: its lists lie in new blocks. -/
def MsgGot (m : Mg) (w : World) (e : Ending) (w' : World) : Prop :=
  ∃ (g0 g1 : Nat) (ys : List Vx), e = .returned (.agg #[.int .i64 m.k, .int .i64 m.f, .int .i64 m.v, .int .i64 m.s, .int .i64 m.r.c, .int .i64 m.r.n, .int .i64 m.r.o, .int .i64 m.r.x, .int .i64 m.r.y, .slice (some ⟨g0, 0, none⟩) m.cl.length m.cl.length, .slice (some ⟨g1, 0, none⟩) m.vs.length m.vs.length]) ∧
    IsSl w' (.slice (some ⟨g0, 0, none⟩) m.cl.length m.cl.length) 7 Cl.cs m.cl ∧ IsVs w' (.slice (some ⟨g1, 0, none⟩) m.vs.length m.vs.length) ys ∧ ys.map Vx.say = m.vs.map Vx.say ∧
    w.heap.size ≤ g0 ∧ w.heap.size ≤ g1 ∧ (∀ z ∈ ys, SlFrom w.heap.size z.sl) ∧ Below w.heap.size w w'
theorem small_of_say {m m' : Mg} (h : m.say = m'.say) (hs : m.small) : m'.small := by
  obtain ⟨n1, n2, n3⟩ := hs
  have hc : m.cl = m'.cl := congrArg (fun q => q.2.1) h
  have hv : m.vs.map Vx.say = m'.vs.map Vx.say := congrArg (fun q => q.2.2) h
  refine ⟨by rw [← hc]; exact n1, by have := congrArg List.length hv; simp at this; omega, fun z hz => ?_⟩
  have hm : z.say ∈ m.vs.map Vx.say := by rw [hv]; exact List.mem_map_of_mem hz
  obtain ⟨z', hz', he⟩ := List.mem_map.1 hm
  have h4 : z'.cl = z.cl := congrArg Prod.snd he
  rw [← h4]
  exact n3 z' hz'

set_option maxRecDepth 100000 in
set_option maxHeartbeats 2000000 in
theorem toMsg_c (va : Value) (m : Mg) (w : World) (ha : IsMg w va m) (hs : m.small) :
    Calls Try.prog 9 #[va] w (MsgGot m w) := by
  obtain ⟨k, f, v, s, r, vc, vv, cl, vs⟩ := m
  obtain ⟨rfl, hc, hv⟩ := ha
  obtain ⟨n1, n2, n3⟩ := hs
  simp only at hc hv n1 n2 n3
  have SC := Lib.hid hc
  have SV := Lib.hid hv
  have N1 := Lib.hid n1
  have N2 := Lib.hid n2
  have N3 := Lib.hid n3
  clear n1 n2 n3
  obtain ⟨ac, cc, rfl, -⟩ := hc
  obtain ⟨⟨av, cv, rfl, -⟩, -⟩ := hv
  simp only [Mg.cs]
  go_enter Try.func9, Try.ntmps9
  go_wp2_with fail
  obtain ⟨W, hW, sW, aW, bW, cW, kW⟩ := blocks3 w (.cells #[.int .i64 k, .int .i64 f, .int .i64 v, .int .i64 s, .int .i64 r.c, .int .i64 r.n, .int .i64 r.o, .int .i64 r.x, .int .i64 r.y, .slice ac cl.length cc, .slice av vs.length cv] 27) (.cells #[.int .i64 0, .int .i64 0, .int .i64 0, .int .i64 0, .int .i64 0, .int .i64 0, .int .i64 0, .int .i64 0, .int .i64 0, .slice none 0 0, .slice none 0 0] 34) (.cells #[.int .i64 k, .int .i64 f, .int .i64 v, .int .i64 s, .int .i64 0, .int .i64 0, .int .i64 0, .int .i64 0, .int .i64 0, .slice none 0 0, .slice none 0 0] 34)
  rw [← hW]
  clear hW
  refine (toReq_c r.c r.n r.o r.x r.y W).mono ?_
  rintro e w1 ⟨rfl, k1⟩
  have s1 := k1.size
  have K1 := below_next kW k1
  have a1 := carryB k1 (by omega) aW
  have b1 := carryB k1 (by omega) bW
  have c1 := carryB k1 (by omega) cW
  clear k1 kW aW bW cW
  have ca := cell_of_block a1
  have cc1 := cell_of_block c1
  have fc1 := unfrozen_of_block c1
  have la := lt_of_block a1
  have lc := lt_of_block c1
  have HWS := Lib.hid sW
  clear sW
  go_wp2_with fail
  obtain ⟨X, hX, sX, cX, oX, kX⟩ := stored5 w1 (w.heap.size + 1 + 1) 4 5 6 7 8 (.int .i64 r.c) (.int .i64 r.n) (.int .i64 r.o) (.int .i64 r.x) (.int .i64 r.y) c1
  rw [← hX]
  clear hX
  have KX := K1.trans (kX.mono (by omega))
  have aX := (oX _ (by omega)).trans a1
  have bX := (oX _ (by omega)).trans b1
  refine (toClaimS_c _ cl X (SC.out.below KX) N1.out).mono ?_
  rintro e w2 ⟨rfl, h2, k2⟩
  have s2 := k2.size
  have l2 := lt_of_block h2
  have K2 := below_next KX k2
  have a2 := carryB k2 (by omega) aX
  have b2 := carryB k2 (by omega) bX
  have c2 := carryB k2 (by omega) cX
  clear k2 aX bX cX KX oX kX ca cc1 fc1 la lc K1 a1 b1 c1
  have ca := cell_of_block a2
  have cc1 := cell_of_block c2
  have fc1 := unfrozen_of_block c2
  have la := lt_of_block a2
  have lc := lt_of_block c2
  have HS2 := Lib.hid (show w.heap.size + 3 ≤ X.heap.size ∧ X.heap.size < w2.heap.size from ⟨by have := HWS.out; omega, l2⟩)
  clear s1 s2 sX l2
  go_wp2_with fail
  obtain ⟨Y, hY, sY, cY, oY, kY⟩ := stored1 w2 (w.heap.size + 1 + 1) 9 (.slice (some ⟨X.heap.size, 0, none⟩) cl.length cl.length) c2
  rw [← hY]
  clear hY
  have KY := K2.trans (kY.mono (by omega))
  have aY := (oY _ (by omega)).trans a2
  have bY := (oY _ (by omega)).trans b2
  have gY := (oY X.heap.size (by have := HS2.out; omega)).trans h2
  refine (toVoteS_c _ vs Y (SV.out.below KY) N2.out N3.out).mono ?_
  rintro e w3 ⟨ys, rfl, hy, hvs, hn, k3⟩
  have K3 := below_next KY k3
  have b3 := carryB k3 (by omega) bY
  have c3 := carryB k3 (by omega) cY
  have g3 := carryB k3 (by have := HS2.out; omega) gY
  have HV := Lib.hid hvs
  have HN := Lib.hid hn
  have HY := Lib.hid hy
  have G3 := Lib.hid g3
  have HS3 := Lib.hid (show X.heap.size < Y.heap.size ∧ w.heap.size + 3 ≤ X.heap.size from ⟨by have := HS2.out; omega, by have := HS2.out; omega⟩)
  have B3 := Lib.hid (lt_of_block g3)
  clear sY k3 kY oY aY bY gY KY K2 a2 b2 c2 h2 ca cc1 fc1 la lc hvs hn hy g3
  have cb := cell_of_block b3
  have fb := unfrozen_of_block b3
  have cc1 := cell_of_block c3
  have fc1 := unfrozen_of_block c3
  have lb := lt_of_block b3
  have lc := lt_of_block c3
  go_wp2_with fail
  refine bodyPost_ret (v := .agg #[.int .i64 k, .int .i64 f, .int .i64 v, .int .i64 s, .int .i64 r.c, .int .i64 r.n, .int .i64 r.o, .int .i64 r.x, .int .i64 r.y, .slice (some ⟨X.heap.size, 0, none⟩) cl.length cl.length, .slice (some ⟨Y.heap.size, 0, none⟩) vs.length vs.length]) (by simp [results, Try.results9, go_sem, cb]) rfl ?_
  have hsz := HS3.out
  refine ⟨X.heap.size, Y.heap.size, ys, rfl, ?_, ⟨?_, fun z hz => ?_⟩, HY.out, by omega, by omega, fun z hz => (HN.out z hz).low (by omega), (by repeat' (first | with_reducible exact Below.refl _ _ | with_reducible assumption | with_reducible refine Below.alloc ?_ ?_ _ | with_reducible refine Below.drew ?_ | with_reducible refine Below.setCell ?_ ?_ _ | omega | (simp; omega) | (simp; done)))⟩
  all_goals
    have h1 : IsSl w3 (.slice (some ⟨X.heap.size, 0, none⟩) cl.length cl.length) 7 Cl.cs cl := sl_of_block seven_len G3.out rfl N1.out
    have f1 : SlFrom (w.heap.size + 3) (.slice (some ⟨X.heap.size, 0, none⟩) cl.length cl.length) := SlFrom.new (by omega)
    have f2 : SlFrom (w.heap.size + 3) (.slice (some ⟨Y.heap.size, 0, none⟩) vs.length vs.length) := SlFrom.new (by omega)
    have hlow : w.heap.size + 1 < w.heap.size + 3 := by omega
    have hlow2 : w.heap.size + 1 + 1 < w.heap.size + 3 := by omega
  · repeat' (refine IsSl.setLow (B := w.heap.size + 3) ?_ f1 (by first | exact hlow | exact hlow2) _)
    exact h1
  · repeat' (refine IsSl.setLow (B := w.heap.size + 3) ?_ f2 (by first | exact hlow | exact hlow2) _)
    exact HV.out.1
  · have f3 := (HN.out z hz).low (B' := w.heap.size + 3) (by omega)
    repeat' (refine IsSl.setLow (B := w.heap.size + 3) ?_ f3 (by first | exact hlow | exact hlow2) _)
    exact HV.out.2 z hz
end Go.Proofs.Ytgdhieffjflejaa
