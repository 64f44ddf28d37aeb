/- Letters compared by eqMsg: two that say the same are found alike; no condition. -/
import Derived.Test.YtgdhieffjflejaaEqM
set_option linter.unusedSimpArgs false
set_option linter.unusedVariables false
namespace Go.Proofs.Ytgdhieffjflejaa
open Go.RowKit Go.Joins

set_option maxRecDepth 100000 in
set_option maxHeartbeats 1000000 in
theorem eqMsg_c (va vb : Value) (m m' : Mg) (w : World) (ha : IsMg w va m) (hb : IsMg w vb m') (he : m.say = m'.say) :
    Calls Try.prog 11 #[va, vb] w (Yes w) := by
  obtain ⟨k, f, v, s, r, vc, vv, cl, vs⟩ := m
  obtain ⟨k', f', v', s', r', vc', vv', cl', vs'⟩ := m'
  simp only [Mg.say, Prod.mk.injEq] at he
  obtain ⟨⟨rfl, rfl, rfl, rfl, rfl⟩, rfl, hvs⟩ := he
  obtain ⟨rfl, hc, hv⟩ := ha
  obtain ⟨rfl, hc', hv'⟩ := hb
  simp only at hc hc' hv hv'
  have SC := Lib.hid hc
  have SV := Lib.hid hv
  have SC' := Lib.hid hc'
  have SV' := Lib.hid hv'
  have HV := Lib.hid hvs
  clear hvs
  obtain ⟨ac, cc, rfl, -⟩ := hc
  obtain ⟨⟨av, cv, rfl, -⟩, -⟩ := hv
  obtain ⟨ac', cc', rfl, -⟩ := hc'
  obtain ⟨⟨av', cv', rfl, -⟩, -⟩ := hv'
  simp only [Mg.cs]
  go_enter Try.func11, Try.ntmps11
  go_wp2_with fail
  obtain ⟨W, hW, sW, aW, bW, kW⟩ := blocks2 w (.cells #[.int .i64 k, .int .i64 f, .int .i64 v, .int .i64 s, .int .i64 r.c, .int .i64 r.n, .int .i64 r.o, .int .i64 r.x, .int .i64 r.y, .slice ac cl.length cc, .slice av vs.length cv] 34) (.cells #[.int .i64 k, .int .i64 f, .int .i64 v, .int .i64 s, .int .i64 r.c, .int .i64 r.n, .int .i64 r.o, .int .i64 r.x, .int .i64 r.y, .slice ac' cl.length cc', .slice av' vs'.length cv'] 34)
  rw [← hW]
  clear hW
  refine (eqReq_self r.c r.n r.o r.x r.y W).mono ?_
  rintro e w1 ⟨rfl, k1⟩
  have K1 := below_next kW k1
  have a1 := carryB k1 (by omega) aW
  have b1 := carryB k1 (by omega) bW
  clear k1 kW aW bW
  have ca := cell_of_block a1
  have cb := cell_of_block b1
  have la := lt_of_block a1
  have lb := lt_of_block b1
  go_wp2_with fail
  refine (eqClaimS_c _ _ cl w1 (SC.out.below K1) (SC'.out.below K1)).mono ?_
  rintro e w2 ⟨rfl, k2⟩
  have K2 := below_next K1 k2
  have a2 := carryB k2 la a1
  have b2 := carryB k2 lb b1
  clear k2 K1 a1 b1 ca cb la lb
  have ca := cell_of_block a2
  have cb := cell_of_block b2
  have la := lt_of_block a2
  have lb := lt_of_block b2
  go_wp2_with fail
  refine (eqVoteS_c _ _ vs vs' w2 (SV.out.below K2) (SV'.out.below K2) HV.out).mono ?_
  rintro e w3 ⟨rfl, k3⟩
  go_wp2_with fail
  go_ret
  exact ⟨rfl, below_next K2 k3⟩
end Go.Proofs.Ytgdhieffjflejaa
