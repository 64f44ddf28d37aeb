/- The walk of FnExactMsgSame; no condition. | FnExactMsgSame: the law returns true for every input; no condition. -/
import Derived.Test.YtgdhieffjflejaaToM
import Derived.Test.YtgdhieffjflejaaEqMsg
import Derived.Test.YtgdhieffjflejaaMsgSame
import Derived.Test.YtgdhieffjflejaaSl
import Derived.ProofKit
import Derived.OpenShut
import Derived.ShutString
import Derived.ChangeOld
import Derived.Below
set_option linter.unusedSimpArgs false
set_option linter.unusedVariables false
/-! The walk of FnExactMsgSame; no condition. -/
namespace Go.Proofs.Ytgdhieffjflejaa
open Go.RowKit Go.Joins

theorem IsMg.below {w w' : World} {v : Value} {m : Mg} (h : IsMg w v m) (b : Below w.heap.size w w') : IsMg w' v m := ⟨h.1, h.2.below b⟩
/-- A letter that says the same, with these slices. -/
def Mg.at (m : Mg) (g0 g1 : Nat) (ys : List Vx) : Mg := ⟨m.k, m.f, m.v, m.s, m.r, .slice (some ⟨g0, 0, none⟩) m.cl.length m.cl.length, .slice (some ⟨g1, 0, none⟩) m.vs.length m.vs.length, m.cl, ys⟩
theorem Mg.at_say {m : Mg} {g0 g1 : Nat} {ys : List Vx} (h : ys.map Vx.say = m.vs.map Vx.say) : (m.at g0 g1 ys).say = m.say := by simp [Mg.say, Mg.at, h]
theorem Mg.at_is {w : World} {m : Mg} {g0 g1 : Nat} {ys : List Vx} (h0 : IsSl w (.slice (some ⟨g0, 0, none⟩) m.cl.length m.cl.length) 7 Cl.cs m.cl) (h1 : IsVs w (.slice (some ⟨g1, 0, none⟩) m.vs.length m.vs.length) ys) :
    IsMg w (.agg #[.int .i64 m.k, .int .i64 m.f, .int .i64 m.v, .int .i64 m.s, .int .i64 m.r.c, .int .i64 m.r.n, .int .i64 m.r.o, .int .i64 m.r.x, .int .i64 m.r.y, .slice (some ⟨g0, 0, none⟩) m.cl.length m.cl.length, .slice (some ⟨g1, 0, none⟩) m.vs.length m.vs.length]) (m.at g0 g1 ys) := ⟨rfl, h0, h1⟩
/-- The copy, under a name of its own. -/
theorem MsgGot.is {m : Mg} {w w' : World} {e : Ending} (h : MsgGot m w e w') : ∃ (g0 g1 : Nat) (m' : Mg), e = .returned (.agg #[.int .i64 m.k, .int .i64 m.f, .int .i64 m.v, .int .i64 m.s, .int .i64 m.r.c, .int .i64 m.r.n, .int .i64 m.r.o, .int .i64 m.r.x, .int .i64 m.r.y, .slice (some ⟨g0, 0, none⟩) m.cl.length m.cl.length, .slice (some ⟨g1, 0, none⟩) m.vs.length m.vs.length]) ∧
    IsMg w' (.agg #[.int .i64 m.k, .int .i64 m.f, .int .i64 m.v, .int .i64 m.s, .int .i64 m.r.c, .int .i64 m.r.n, .int .i64 m.r.o, .int .i64 m.r.x, .int .i64 m.r.y, .slice (some ⟨g0, 0, none⟩) m.cl.length m.cl.length, .slice (some ⟨g1, 0, none⟩) m.vs.length m.vs.length]) m' ∧ m'.say = m.say ∧ Below w.heap.size w w' := by
  obtain ⟨g0, g1, ys, he, h0, h1, hy, -, -, -, hk⟩ := h
  exact ⟨g0, g1, m.at g0 g1 ys, he, Mg.at_is h0 h1, Mg.at_say hy, hk⟩
theorem toMsg_is (va : Value) (m : Mg) (w : World) (ha : IsMg w va m) (hs : m.small) :
    Calls Try.prog 9 #[va] w fun e w' => ∃ (g0 g1 : Nat) (m' : Mg), e = .returned (.agg #[.int .i64 m.k, .int .i64 m.f, .int .i64 m.v, .int .i64 m.s, .int .i64 m.r.c, .int .i64 m.r.n, .int .i64 m.r.o, .int .i64 m.r.x, .int .i64 m.r.y, .slice (some ⟨g0, 0, none⟩) m.cl.length m.cl.length, .slice (some ⟨g1, 0, none⟩) m.vs.length m.vs.length]) ∧
    IsMg w' (.agg #[.int .i64 m.k, .int .i64 m.f, .int .i64 m.v, .int .i64 m.s, .int .i64 m.r.c, .int .i64 m.r.n, .int .i64 m.r.o, .int .i64 m.r.x, .int .i64 m.r.y, .slice (some ⟨g0, 0, none⟩) m.cl.length m.cl.length, .slice (some ⟨g1, 0, none⟩) m.vs.length m.vs.length]) m' ∧ m'.say = m.say ∧ Below w.heap.size w w' :=
  (toMsg_c va m w ha hs).mono fun _ _ h => h.is

set_option maxRecDepth 100000 in
set_option maxHeartbeats 4000000 in
theorem fnExactMsgSame.walk (v0 : Value) (m0 : Mg) (v1 : Value) (m1 : Mg) (w : World) (h0 : IsMg w v0 m0) (h1 : IsMg w v1 m1) :
    Calls Try.prog 3 #[v0, v1] w fun e w' => e = .returned (.bool true) ∧ Below w.heap.size w w' := by
  have H0 := Lib.hid h0
  have H1 := Lib.hid h1
  obtain ⟨rfl, ⟨a0, c0, e0, -⟩, ⟨b0, d0, f0, -⟩, -⟩ := h0
  obtain ⟨rfl, ⟨a1, c1, e1, -⟩, ⟨b1, d1, f1, -⟩, -⟩ := h1
  simp only [Mg.cs, e0, f0, e1, f1] at H0 H1 ⊢
  clear e0 f0 e1 f1
  go_enter Try.func3, Try.ntmps3
  go_wp2_with fail
  obtain ⟨W, hW, sW, aW, bW, kW⟩ := blocks2 w (.cells #[.int .i64 m0.k, .int .i64 m0.f, .int .i64 m0.v, .int .i64 m0.s, .int .i64 m0.r.c, .int .i64 m0.r.n, .int .i64 m0.r.o, .int .i64 m0.r.x, .int .i64 m0.r.y, .slice a0 m0.cl.length c0, .slice b0 m0.vs.length d0] 27) (.cells #[.int .i64 m1.k, .int .i64 m1.f, .int .i64 m1.v, .int .i64 m1.s, .int .i64 m1.r.c, .int .i64 m1.r.n, .int .i64 m1.r.o, .int .i64 m1.r.x, .int .i64 m1.r.y, .slice a1 m1.cl.length c1, .slice b1 m1.vs.length d1] 27)
  rw [← hW]
  clear hW
  refine (szMsg_c _ m0 1048576 W (H0.out.below kW) (by decide) (by decide)).mono ?_
  rintro e w1 ⟨l, rfl, hl, hs, k1⟩
  have S0 := Lib.hid hs
  have K1 := below_next kW k1
  have x1 := carryB k1 (by omega) aW
  have y1 := carryB k1 (by omega) bW
  clear hs k1 kW aW bW sW
  by_cases hneg : l < 0
  · go_wp2_with fail
    go_ret
    exact ⟨rfl, K1⟩
  have cx1 := cell_of_block x1
  have fx1 := unfrozen_of_block x1
  have lx1 := lt_of_block x1
  have cy1 := cell_of_block y1
  have fy1 := unfrozen_of_block y1
  have ly1 := lt_of_block y1
  go_wp2_with fail
  refine (szMsg_c _ m1 l w1 (H1.out.below K1) (by omega) (by omega)).mono ?_
  rintro e w2 ⟨l', rfl, hl', hs, k2⟩
  have S1 := Lib.hid hs
  have K2 := below_next K1 k2
  have x2 := carryB k2 (by omega) x1
  have y2 := carryB k2 (by omega) y1
  clear cx1 fx1 lx1 cy1 fy1 ly1
  clear hs k2 K1 x1 y1
  by_cases hneg' : l' < 0
  · go_wp2_with fail
    go_ret
    exact ⟨rfl, K2⟩
  have N0 := Lib.hid (S0.out (by omega))
  have N1 := Lib.hid (S1.out (by omega))
  clear S0 S1
  have cx2 := cell_of_block x2
  have fx2 := unfrozen_of_block x2
  have lx2 := lt_of_block x2
  have cy2 := cell_of_block y2
  have fy2 := unfrozen_of_block y2
  have ly2 := lt_of_block y2
  go_wp2_with fail
  go_region_held3 (fun w' => (∀ b o, b < w2.heap.size → w'.cell? ⟨b, o, none⟩ = w2.cell? ⟨b, o, none⟩) ∧ Below w2.heap.size w2 w')
    (first | with_reducible exact Kept.start _ | with_reducible exact Kept.drew (by assumption) | with_reducible exact kS | with_reducible exact kS' | with_reducible exact kS'')
    (first
    | (go_at_call 9; have kSS := kS; refine (toMsg_is _ m1 _ (H1.out.below (below_next K2 kS.2)) N1.out).mono ?_; rintro e w4 ⟨p1, q1, n1, rfl, i1, j1, k4⟩; have kS' := Kept.next (Nat.le_refl _) kS k4)
    | (go_at_call 9; refine (toMsg_is _ m0 _ (H0.out.below (below_next K2 (by assumption : _ ∧ _).2)) N0.out).mono ?_; rintro e w3 ⟨p0, q0, n0, rfl, i0, j0, k3⟩; have kS := Kept.next (Nat.le_refl _) (by assumption) k3)
    | (go_at_call 8; refine (sMsgSame_c _ _ n0 n1 _ (i0.below k4) i1).mono ?_; rintro e w5 ⟨rfl, k5⟩; have kS'' := Kept.next (Nat.le_refl _) kS' k5))
  have K5 := below_next K2 kS''.2
  have x5 := carryB kS''.2 lx2 x2
  have y5 := carryB kS''.2 ly2 y2
  clear cx2 fx2 lx2 cy2 fy2 ly2
  clear x2 y2 K2 kS'' kS' kS k3 k4 k5 i0 i1 j0 j1
  have cx5 := cell_of_block x5
  have fx5 := unfrozen_of_block x5
  have lx5 := lt_of_block x5
  have cy5 := cell_of_block y5
  have fy5 := unfrozen_of_block y5
  have ly5 := lt_of_block y5
  go_wp2_with fail
  refine (toMsg_is _ m0 w5 (H0.out.below K5) N0.out).mono ?_
  rintro e w6 ⟨p2, q2, n2, rfl, i2, j2, k6⟩
  have K6 := below_next K5 k6
  have x6 := carryB k6 lx5 x5
  have y6 := carryB k6 ly5 y5
  clear cx5 fx5 lx5 cy5 fy5 ly5
  clear x5 y5 K5 k6
  have cx6 := cell_of_block x6
  have fx6 := unfrozen_of_block x6
  have lx6 := lt_of_block x6
  have cy6 := cell_of_block y6
  have fy6 := unfrozen_of_block y6
  have ly6 := lt_of_block y6
  have I2 := Lib.hid i2
  have J2 := Lib.hid j2
  clear i2 j2
  go_wp2_with fail
  obtain ⟨X, hX, sX, zX, kX⟩ := blocks1 w6 (.cells #[.int .i64 m0.k, .int .i64 m0.f, .int .i64 m0.v, .int .i64 m0.s, .int .i64 m0.r.c, .int .i64 m0.r.n, .int .i64 m0.r.o, .int .i64 m0.r.x, .int .i64 m0.r.y, .slice (some ⟨p2, 0, none⟩) m0.cl.length m0.cl.length, .slice (some ⟨q2, 0, none⟩) m0.vs.length m0.vs.length] 34)
  rw [← hX]
  clear hX
  have KX := below_next K6 kX
  have xX := carryB kX lx6 x6
  have yX := carryB kX ly6 y6
  replace I2 := Lib.hid (I2.out.below kX)
  clear cx6 fx6 lx6 cy6 fy6 ly6
  clear x6 y6 K6 kX
  refine (toMsg_is _ m1 X (H1.out.below KX) N1.out).mono ?_
  rintro e w7 ⟨p3, q3, n3, rfl, i3, j3, k7⟩
  have K7 := below_next KX k7
  have x7 := carryB k7 (lt_of_block xX) xX
  have y7 := carryB k7 (lt_of_block yX) yX
  have z7 := carryB k7 (lt_of_block zX) zX
  replace I2 := Lib.hid (I2.out.below k7)
  clear xX yX zX KX k7 sX
  have cx7 := cell_of_block x7
  have fx7 := unfrozen_of_block x7
  have lx7 := lt_of_block x7
  have cy7 := cell_of_block y7
  have fy7 := unfrozen_of_block y7
  have ly7 := lt_of_block y7
  have cz7 := cell_of_block z7
  have fz7 := unfrozen_of_block z7
  have lz7 := lt_of_block z7
  have I3 := Lib.hid i3
  have J3 := Lib.hid j3
  clear i3 j3
  go_wp2_with fail
  obtain ⟨Y, hY, sY, uY, kY⟩ := blocks1 w7 (.cells #[.int .i64 m1.k, .int .i64 m1.f, .int .i64 m1.v, .int .i64 m1.s, .int .i64 m1.r.c, .int .i64 m1.r.n, .int .i64 m1.r.o, .int .i64 m1.r.x, .int .i64 m1.r.y, .slice (some ⟨p3, 0, none⟩) m1.cl.length m1.cl.length, .slice (some ⟨q3, 0, none⟩) m1.vs.length m1.vs.length] 34)
  rw [← hY]
  clear hY
  have KY := below_next K7 kY
  have xY := carryB kY lx7 x7
  have yY := carryB kY ly7 y7
  have zY := carryB kY lz7 z7
  replace I2 := Lib.hid (I2.out.below kY)
  replace I3 := Lib.hid (I3.out.below kY)
  clear cx7 fx7 lx7 cy7 fy7 ly7 cz7 fz7 lz7
  clear x7 y7 z7 K7 kY sY
  refine (MsgSame_c _ _ n2 n3 Y I2.out I3.out).mono ?_
  rintro e w8 ⟨rfl, k8⟩
  rw [J2.out, J3.out]
  have K8 := below_next KY k8
  have x8 := carryB k8 (lt_of_block xY) xY
  have y8 := carryB k8 (lt_of_block yY) yY
  have z8 := carryB k8 (lt_of_block zY) zY
  have u8 := carryB k8 (lt_of_block uY) uY
  replace I2 := Lib.hid (I2.out.below k8)
  replace I3 := Lib.hid (I3.out.below k8)
  clear xY yY zY uY KY k8
  have cx8 := cell_of_block x8
  have fx8 := unfrozen_of_block x8
  have lx8 := lt_of_block x8
  have cy8 := cell_of_block y8
  have fy8 := unfrozen_of_block y8
  have ly8 := lt_of_block y8
  have cz8 := cell_of_block z8
  have fz8 := unfrozen_of_block z8
  have lz8 := lt_of_block z8
  have cu8 := cell_of_block u8
  have fu8 := unfrozen_of_block u8
  have lu8 := lt_of_block u8
  generalize decide (m0.say = m1.say) = b
  have hbb : (b != b) = false := by simp
  go_wp2_with fail
  go_region_held3 (fun w' => (∀ b o, b < w8.heap.size → w'.cell? ⟨b, o, none⟩ = w8.cell? ⟨b, o, none⟩) ∧ Below w8.heap.size w8 w')
    (first | with_reducible exact Kept.start _ | with_reducible exact Kept.drew (by assumption) | with_reducible exact kS | with_reducible exact kS')
    (first
    | (go_at_call 9; refine (toMsg_is _ m0 _ (H0.out.below (below_next K8 (by assumption : _ ∧ _).2)) N0.out).mono ?_; rintro e w9 ⟨p4, q4, n4, rfl, i4, j4, k9⟩; have kS := Kept.next (Nat.le_refl _) (by assumption) k9)
    | (go_at_call 11; refine (eqMsg_c _ _ n2 n4 _ (I2.out.below kS.2) i4 (J2.out.trans j4.symm)).mono ?_; rintro e w10 ⟨rfl, k10⟩; have kS' := Kept.next (Nat.le_refl _) kS k10))
  have K10 := below_next K8 kS'.2
  have y10 := carryB kS'.2 ly8 y8
  have u10 := carryB kS'.2 lu8 u8
  replace I3 := Lib.hid (I3.out.below kS'.2)
  clear cx8 fx8 lx8 cy8 fy8 ly8 cz8 fz8 lz8 cu8 fu8 lu8
  clear x8 y8 z8 u8 K8 kS' kS k9 k10 i4 j4 I2 J2 H0 N0
  have cy10 := cell_of_block y10
  have fy10 := unfrozen_of_block y10
  have ly10 := lt_of_block y10
  have cu10 := cell_of_block u10
  have fu10 := unfrozen_of_block u10
  have lu10 := lt_of_block u10
  go_wp2_with fail
  go_region_held3 (fun w' => (∀ b o, b < w10.heap.size → w'.cell? ⟨b, o, none⟩ = w10.cell? ⟨b, o, none⟩) ∧ Below w10.heap.size w10 w')
    (first | with_reducible exact Kept.start _ | with_reducible exact Kept.drew (by assumption) | with_reducible exact kS | with_reducible exact kS')
    (first
    | (go_at_call 9; refine (toMsg_is _ m1 _ (H1.out.below (below_next K10 (by assumption : _ ∧ _).2)) N1.out).mono ?_; rintro e w11 ⟨p5, q5, n5, rfl, i5, j5, k11⟩; have kS := Kept.next (Nat.le_refl _) (by assumption) k11)
    | (go_at_call 11; refine (eqMsg_c _ _ n3 n5 _ (I3.out.below kS.2) i5 (J3.out.trans j5.symm)).mono ?_; rintro e w12 ⟨rfl, k12⟩; have kS' := Kept.next (Nat.le_refl _) kS k12))
  go_wp2_with fail
  go_ret
  exact ⟨rfl, below_next K10 kS'.2⟩
end Go.Proofs.Ytgdhieffjflejaa

/-! FnExactMsgSame: the law returns true for every input; no condition. -/
namespace Go.Proofs.Ytgdhieffjflejaa.fnExactMsgSame
open Go.ChangeShapes hiding open_int
open Go.WideShapes Go.ChangeAt Go.RowKit
open Go.ChangeMaps (shut_string)
set_option linter.unusedVariables false

theorem own : ownKnob Try.prog.godebug = none := by kernel_rfl
theorem laidOut : laidOutB Try.prog = true := by kernel_rfl

set_option maxRecDepth 100000 in
theorem lifted (os : Os) (started : os.Started) (H : Type) (enc : TypeId × Value → H) :
    ReturnsInHanded {} Try.checked os 3 .any (Rows.fnExactMsgSameSpec.pre6 enc Try.prog Try.f3 Rows.fnExactMsgSameRow.domain false) (Rows.fnExactMsgSameSpec.post enc Try.prog Try.f3 false true false false) := by
  refine returnsInHanded_of_change (C := Try.checked) own started (by kernel_rfl) Try.func3
    (ChangeSpec.witness6 (enc := enc) (C := Try.checked) false ⟨#[], #[.agg #[.int .i64 0, .int .i64 0, .int .i64 0, .int .i64 0, .int .i64 0, .int .i64 0, .int .i64 0, .int .i64 0, .int .i64 0, .slice none 0 0, .slice none 0 0], .agg #[.int .i64 0, .int .i64 0, .int .i64 0, .int .i64 0, .int .i64 0, .int .i64 0, .int .i64 0, .int .i64 0, .int .i64 0, .slice none 0 0, .slice none 0 0]], []⟩ 8 (by kernel_rfl) (by kernel_rfl) (by kernel_rfl) (by kernel_rfl)) ?_
  intro W base args ds gs before hval0 hW hcnd _
  have hval : ∀ (j : Nat) t v, Try.f3.params[j]? = some t → args[j]? = some v → Value.okWide Try.prog W .any base t v := hval0
  have hW' := hW
  obtain ⟨p, q, hA0, hV, rfl, hfz, hnd⟩ := hW
  have hA : DataW.TrodAll enc Try.prog W 0 (fun _ => true) true Try.f3.params.toList args.toList ds p := hA0
  rw [Try.params3] at hA hval
  obtain ⟨v0, vs0, d0, ds0, p0, q0, hargs, rfl, rfl, h0, r0⟩ := trodAll_cons hA
  obtain ⟨v1, vs1, d1, ds1, p1, q1, rfl, rfl, rfl, h1, r1⟩ := trodAll_cons r0
  obtain ⟨rfl, rfl, rfl⟩ := trodAll_nil r1
  obtain rfl : args = #[v0, v1] := by cases args; simp_all
  obtain ⟨rfl, rfl⟩ := trodVars_none hV
  have lt0 : ∀ x ∈ p0, x.block < W.heap.size := by obtain ⟨m, hm⟩ := h0; exact DataW.trod_lt m _ _ _ hm
  obtain ⟨z0, o0⟩ := open_Msg (hval 0 27 v0 rfl rfl) h0
  have lt1 : ∀ x ∈ p1, x.block < W.heap.size := by obtain ⟨m, hm⟩ := h1; exact DataW.trod_lt m _ _ _ hm
  obtain ⟨z1, o1⟩ := open_Msg (hval 1 27 v1 rfl rfl) h1
  clear hA0 hval0
  refine (walk v0 z0 v1 z1 W o0 o1).mono fun e W' ⟨he, bel⟩ => ?_
  subst he
  exact ⟨_, rfl, _, _, _, [], _, [], hW', trodAll_mk1 (shut_bool Try.underlying4 _), (trodAll_cons_mk (Below.trod laidOut (by kernel_rfl) (of_decide_eq_true (by kernel_rfl)) h0 bel lt0) (trodAll_cons_mk (Below.trod laidOut (by kernel_rfl) (of_decide_eq_true (by kernel_rfl)) h1 bel lt1) trodAll_mk0)), rfl, bel.frame _, fun h => by cases h⟩

theorem over : Rows.fnExactMsgSameRow.holds Try.pinned (OpenSpec.ofChange Rows.fnExactMsgSameSpec) :=
  OpenClaim.holds_of_wide 3 Try.f3 rfl rfl rfl rfl rfl rfl rfl ⟨rfl, rfl, rfl, rfl, rfl⟩ rfl rfl rfl rfl rfl (by kernel_rfl) Try.func3 (by kernel_rfl)
    (of_decide_eq_true (by kernel_rfl)) (by unfold Func.isWrapper; first | (rw [if_pos (by decide +kernel)]; kernel_rfl) | (rw [if_neg (by decide +kernel)]; exact ⟨rfl, rfl⟩))
    (fun os started H enc _ => lifted os started H enc)

theorem proved : Rows.FnExactMsgSameSaid := over
end Go.Proofs.Ytgdhieffjflejaa.fnExactMsgSame
