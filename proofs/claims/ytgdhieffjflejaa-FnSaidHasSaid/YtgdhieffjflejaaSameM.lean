/- Letters compared by the reference (l3Same); no condition. -/
import Derived.Test.YtgdhieffjflejaaSameV
set_option linter.unusedSimpArgs false
set_option linter.unusedVariables false
namespace Go.Proofs.Ytgdhieffjflejaa
open Go.RowKit Go.Joins
attribute [local go_sem ↓] eql_rq

/-- What a letter says, without where its lists lie. -/
def Mg.say (m : Mg) : (Int × Int × Int × Int × Rq) × List Cl × List (Int × List Cl) := ((m.k, m.f, m.v, m.s, m.r), m.cl, m.vs.map Vx.say)

set_option maxRecDepth 100000 in
set_option maxHeartbeats 1000000 in
theorem l3Same_c (va vb : Value) (m m' : Mg) (w : World) (ha : IsMg w va m) (hb : IsMg w vb m') :
    Calls Try.prog 25 #[va, vb] w fun e w' => e = .returned (.bool (decide (m.say = m'.say))) ∧ Below w.heap.size w w' := by
  obtain ⟨k, f, v, s, r, vc, vv, cl, vs⟩ := m
  obtain ⟨k', f', v', s', r', vc', vv', cl', vs'⟩ := m'
  obtain ⟨rfl, hc, hv⟩ := ha
  obtain ⟨rfl, hc', hv'⟩ := hb
  simp only at hc hc' hv hv'
  have SC := Lib.hid hc
  have SV := Lib.hid hv
  have SC' := Lib.hid hc'
  have SV' := Lib.hid hv'
  obtain ⟨ac, cc, rfl, -⟩ := hc
  obtain ⟨⟨av, cv, rfl, -⟩, -⟩ := hv
  obtain ⟨ac', cc', rfl, -⟩ := hc'
  obtain ⟨⟨av', cv', rfl, -⟩, -⟩ := hv'
  simp only [Mg.cs]
  by_cases hk : k = k'
  rotate_left
  · have HX := Lib.hid (show decide (Mg.say ⟨k, f, v, s, r, .slice ac cl.length cc, .slice av vs.length cv, cl, vs⟩ = Mg.say ⟨k', f', v', s', r', .slice ac' cl'.length cc', .slice av' vs'.length cv', cl', vs'⟩) = false from decide_eq_false (by simp [Mg.say, hk]))
    have e1 : (k == k') = false := by simpa using hk
    go_enter Try.func25, Try.ntmps25
    go_wp2_with fail
    go_ret
    exact ⟨ret_bool HX.out.symm, (by repeat' (first | with_reducible exact Below.refl _ _ | with_reducible assumption | with_reducible refine Below.alloc ?_ ?_ _ | with_reducible refine Below.drew ?_ | with_reducible refine Below.setCell ?_ ?_ _ | omega | (simp; omega) | (simp; done)))⟩
  subst hk
  by_cases hf : f = f'
  rotate_left
  · have HX := Lib.hid (show decide (Mg.say ⟨k, f, v, s, r, .slice ac cl.length cc, .slice av vs.length cv, cl, vs⟩ = Mg.say ⟨k, f', v', s', r', .slice ac' cl'.length cc', .slice av' vs'.length cv', cl', vs'⟩) = false from decide_eq_false (by simp [Mg.say, hf]))
    have e1 : (f == f') = false := by simpa using hf
    go_enter Try.func25, Try.ntmps25
    go_wp2_with fail
    go_ret
    exact ⟨ret_bool HX.out.symm, (by repeat' (first | with_reducible exact Below.refl _ _ | with_reducible assumption | with_reducible refine Below.alloc ?_ ?_ _ | with_reducible refine Below.drew ?_ | with_reducible refine Below.setCell ?_ ?_ _ | omega | (simp; omega) | (simp; done)))⟩
  subst hf
  by_cases hv : v = v'
  rotate_left
  · have HX := Lib.hid (show decide (Mg.say ⟨k, f, v, s, r, .slice ac cl.length cc, .slice av vs.length cv, cl, vs⟩ = Mg.say ⟨k, f, v', s', r', .slice ac' cl'.length cc', .slice av' vs'.length cv', cl', vs'⟩) = false from decide_eq_false (by simp [Mg.say, hv]))
    have e1 : (v == v') = false := by simpa using hv
    go_enter Try.func25, Try.ntmps25
    go_wp2_with fail
    go_ret
    exact ⟨ret_bool HX.out.symm, (by repeat' (first | with_reducible exact Below.refl _ _ | with_reducible assumption | with_reducible refine Below.alloc ?_ ?_ _ | with_reducible refine Below.drew ?_ | with_reducible refine Below.setCell ?_ ?_ _ | omega | (simp; omega) | (simp; done)))⟩
  subst hv
  by_cases hs : s = s'
  rotate_left
  · have HX := Lib.hid (show decide (Mg.say ⟨k, f, v, s, r, .slice ac cl.length cc, .slice av vs.length cv, cl, vs⟩ = Mg.say ⟨k, f, v, s', r', .slice ac' cl'.length cc', .slice av' vs'.length cv', cl', vs'⟩) = false from decide_eq_false (by simp [Mg.say, hs]))
    have e1 : (s == s') = false := by simpa using hs
    go_enter Try.func25, Try.ntmps25
    go_wp2_with fail
    go_ret
    exact ⟨ret_bool HX.out.symm, (by repeat' (first | with_reducible exact Below.refl _ _ | with_reducible assumption | with_reducible refine Below.alloc ?_ ?_ _ | with_reducible refine Below.drew ?_ | with_reducible refine Below.setCell ?_ ?_ _ | omega | (simp; omega) | (simp; done)))⟩
  subst hs
  by_cases hr : r = r'
  rotate_left
  · have HX := Lib.hid (show decide (Mg.say ⟨k, f, v, s, r, .slice ac cl.length cc, .slice av vs.length cv, cl, vs⟩ = Mg.say ⟨k, f, v, s, r', .slice ac' cl'.length cc', .slice av' vs'.length cv', cl', vs'⟩) = false from decide_eq_false (by simp [Mg.say, hr]))
    have e1 := eqR_ne hr
    go_enter Try.func25, Try.ntmps25
    go_wp2_with fail
    go_ret
    exact ⟨ret_bool HX.out.symm, (by repeat' (first | with_reducible exact Below.refl _ _ | with_reducible assumption | with_reducible refine Below.alloc ?_ ?_ _ | with_reducible refine Below.drew ?_ | with_reducible refine Below.setCell ?_ ?_ _ | omega | (simp; omega) | (simp; done)))⟩
  subst hr
  have e1 := eqR_refl r.c r.n r.o r.x r.y
  go_enter Try.func25, Try.ntmps25
  go_wp2_with fail
  obtain ⟨W, hW, sW, aW, bW, kW⟩ := blocks2 w (.cells #[.int .i64 k, .int .i64 f, .int .i64 v, .int .i64 s, .int .i64 r.c, .int .i64 r.n, .int .i64 r.o, .int .i64 r.x, .int .i64 r.y, .slice ac cl.length cc, .slice av vs.length cv] 34) (.cells #[.int .i64 k, .int .i64 f, .int .i64 v, .int .i64 s, .int .i64 r.c, .int .i64 r.n, .int .i64 r.o, .int .i64 r.x, .int .i64 r.y, .slice ac' cl'.length cc', .slice av' vs'.length cv'] 34)
  rw [← hW]
  clear hW
  refine (l3SameClaims_c _ _ cl cl' W (SC.out.below kW) (SC'.out.below kW)).mono ?_
  rintro e w1 ⟨rfl, k1⟩
  have K1 := below_next kW k1
  have a1 := carryB k1 (by omega) aW
  have b1 := carryB k1 (by omega) bW
  clear k1 kW aW bW
  have ca := cell_of_block a1
  have cb := cell_of_block b1
  have la := lt_of_block a1
  have lb := lt_of_block b1
  by_cases hcl : cl = cl'
  rotate_left
  · have HX := Lib.hid (show decide (Mg.say ⟨k, f, v, s, r, .slice ac cl.length cc, .slice av vs.length cv, cl, vs⟩ = Mg.say ⟨k, f, v, s, r, .slice ac' cl'.length cc', .slice av' vs'.length cv', cl', vs'⟩) = false from decide_eq_false (by simp [Mg.say, hcl]))
    rw [show decide (cl = cl') = false from decide_eq_false hcl]
    go_wp2_with fail
    go_ret
    exact ⟨ret_bool HX.out.symm, K1⟩
  rw [show decide (cl = cl') = true from decide_eq_true hcl]
  go_wp2_with fail
  refine (l3SameVotes_c _ _ vs vs' w1 (SV.out.below K1) (SV'.out.below K1)).mono ?_
  rintro e w2 ⟨rfl, k2⟩
  go_wp2_with fail
  go_ret
  exact ⟨ret_bool (by simp [Mg.say, hcl]), below_next K1 k2⟩

set_option maxHeartbeats 1000000 in
theorem sMsgSame_c (va vb : Value) (m m' : Mg) (w : World) (ha : IsMg w va m) (hb : IsMg w vb m') :
    Calls Try.prog 8 #[va, vb] w fun e w' => e = .returned (.bool (decide (m.say = m'.say))) ∧ Below w.heap.size w w' := by
  obtain ⟨k, f, v, s, r, vc, vv, cl, vs⟩ := m
  obtain ⟨k', f', v', s', r', vc', vv', cl', vs'⟩ := m'
  obtain ⟨rfl, hc, hv⟩ := ha
  obtain ⟨rfl, hc', hv'⟩ := hb
  simp only at hc hc' hv hv'
  have SC := Lib.hid hc
  have SV := Lib.hid hv
  have SC' := Lib.hid hc'
  have SV' := Lib.hid hv'
  obtain ⟨ac, cc, rfl, -⟩ := hc
  obtain ⟨⟨av, cv, rfl, -⟩, -⟩ := hv
  obtain ⟨ac', cc', rfl, -⟩ := hc'
  obtain ⟨⟨av', cv', rfl, -⟩, -⟩ := hv'
  simp only [Mg.cs]
  go_enter Try.func8, Try.ntmps8
  go_wp2_with fail
  obtain ⟨W, hW, sW, aW, bW, kW⟩ := blocks2 w (.cells #[.int .i64 k, .int .i64 f, .int .i64 v, .int .i64 s, .int .i64 r.c, .int .i64 r.n, .int .i64 r.o, .int .i64 r.x, .int .i64 r.y, .slice ac cl.length cc, .slice av vs.length cv] 34) (.cells #[.int .i64 k', .int .i64 f', .int .i64 v', .int .i64 s', .int .i64 r'.c, .int .i64 r'.n, .int .i64 r'.o, .int .i64 r'.x, .int .i64 r'.y, .slice ac' cl'.length cc', .slice av' vs'.length cv'] 34)
  rw [← hW]
  clear hW
  refine (l3Same_c _ _ ⟨k, f, v, s, r, .slice ac cl.length cc, .slice av vs.length cv, cl, vs⟩ ⟨k', f', v', s', r', .slice ac' cl'.length cc', .slice av' vs'.length cv', cl', vs'⟩ W ⟨rfl, SC.out.below kW, SV.out.below kW⟩ ⟨rfl, SC'.out.below kW, SV'.out.below kW⟩).mono ?_
  rintro e w1 ⟨rfl, k1⟩
  go_wp2_with fail
  go_ret
  exact ⟨rfl, below_next kW k1⟩
end Go.Proofs.Ytgdhieffjflejaa
