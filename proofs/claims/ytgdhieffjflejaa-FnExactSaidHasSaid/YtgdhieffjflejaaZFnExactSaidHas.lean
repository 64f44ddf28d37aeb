/- The walk of FnExactSaidHas; no condition. | FnExactSaidHas: the law returns true for every input; no condition. -/
import Derived.Test.YtgdhieffjflejaaToMI
import Derived.Test.YtgdhieffjflejaaEqMS
import Derived.Test.YtgdhieffjflejaaSzMS
import Derived.Test.YtgdhieffjflejaaHasI
import Derived.Test.YtgdhieffjflejaaSl
import Derived.ProofKit
import Derived.OpenShut
import Derived.ShutString
import Derived.ChangeOld
import Derived.Below
set_option linter.unusedSimpArgs false
set_option linter.unusedVariables false
/-! The walk of FnExactSaidHas; no condition. -/
namespace Go.Proofs.Ytgdhieffjflejaa
open Go.RowKit Go.Joins

set_option maxRecDepth 100000 in
set_option maxHeartbeats 4000000 in
theorem fnExactSaidHas.walk (v0 : Value) (ms : List Mg) (v1 : Value) (m1 : Mg) (w : World) (h0 : IsMs w v0 ms) (h1 : IsMg w v1 m1) :
    Calls Try.prog 4 #[v0, v1] w fun e w' => e = .returned (.bool true) ∧ Below w.heap.size w w' := by
  have H0 := Lib.hid h0
  have H1 := Lib.hid h1
  obtain ⟨⟨a0, c0, rfl, -⟩, -⟩ := h0
  obtain ⟨rfl, ⟨a1, c1, e1, -⟩, ⟨b1, d1, f1, -⟩, -⟩ := h1
  simp only [Mg.cs, e1, f1] at H1 ⊢
  clear e1 f1
  go_enter Try.func4, Try.ntmps4
  go_wp2_with fail
  obtain ⟨W, hW, sW, bW, kW⟩ := blocks1 w (.cells #[.int .i64 m1.k, .int .i64 m1.f, .int .i64 m1.v, .int .i64 m1.s, .int .i64 m1.r.c, .int .i64 m1.r.n, .int .i64 m1.r.o, .int .i64 m1.r.x, .int .i64 m1.r.y, .slice a1 m1.cl.length c1, .slice b1 m1.vs.length d1] 27)
  rw [← hW]
  clear hW
  refine (szMsgS_c _ ms 1048576 W (H0.out.below kW) (by decide) (by decide)).mono ?_
  rintro e w1 ⟨l, rfl, hl, hs, k1⟩
  have S0 := Lib.hid hs
  have K1 := below_next kW k1
  have y1 := carryB k1 (by omega) bW
  clear hs k1 kW bW sW
  by_cases hneg : l < 0
  · go_wp2_with fail
    go_ret
    exact ⟨rfl, K1⟩
  have cy1 := cell_of_block y1
  have fy1 := unfrozen_of_block y1
  have ly1 := lt_of_block y1
  go_wp2_with fail
  refine (szMsg_c _ m1 l w1 (H1.out.below K1) (by omega) (by omega)).mono ?_
  rintro e w2 ⟨l', rfl, hl', hs, k2⟩
  have S1 := Lib.hid hs
  have K2 := below_next K1 k2
  have y2 := carryB k2 (by omega) y1
  clear cy1 fy1 ly1
  clear hs k2 K1 y1
  by_cases hneg' : l' < 0
  · go_wp2_with fail
    go_ret
    exact ⟨rfl, K2⟩
  have N0 := Lib.hid (S0.out (by omega))
  have N1 := Lib.hid (S1.out (by omega))
  clear S0 S1
  have cy2 := cell_of_block y2
  have fy2 := unfrozen_of_block y2
  have ly2 := lt_of_block y2
  go_wp2_with fail
  go_region_held3 (fun w' => (∀ b o, b < w2.heap.size → w'.cell? ⟨b, o, none⟩ = w2.cell? ⟨b, o, none⟩) ∧ Below w2.heap.size w2 w')
    (first | with_reducible exact Kept.start _ | with_reducible exact Kept.drew (by assumption) | with_reducible exact kS | with_reducible exact kS' | with_reducible exact kS'')
    (first
    | (go_at_call 14; refine (toMsgS_is _ ms _ (H0.out.below (below_next K2 (by assumption : _ ∧ _).2)) N0.out.1 N0.out.2).mono ?_; rintro e w3 ⟨p0, n0, rfl, i0, j0, k3⟩; have kS := Kept.next (Nat.le_refl _) (by assumption) k3)
    | (go_at_call 9; refine (toMsg_is _ m1 _ (H1.out.below (below_next K2 kS.2)) N1.out).mono ?_; rintro e w4 ⟨p1, q1, n1, rfl, i1, j1, k4⟩; have kS' := Kept.next (Nat.le_refl _) kS k4)
    | (go_at_call 13; refine (sSaidHas_c _ _ n0 n1 _ (i0.below k4) i1).mono ?_; rintro e w5 ⟨rfl, k5⟩; have kS'' := Kept.next (Nat.le_refl _) kS' k5))
  have K5 := below_next K2 kS''.2
  have y5 := carryB kS''.2 ly2 y2
  clear cy2 fy2 ly2
  rw [hasM_map j0 j1]
  clear y2 K2 kS'' kS' kS k3 k4 k5 i0 i1 j0 j1
  have cy5 := cell_of_block y5
  have fy5 := unfrozen_of_block y5
  have ly5 := lt_of_block y5
  go_wp2_with fail
  refine (toMsgS_is _ ms w5 (H0.out.below K5) N0.out.1 N0.out.2).mono ?_
  rintro e w6 ⟨p2, n2, rfl, i2, j2, k6⟩
  have K6 := below_next K5 k6
  have y6 := carryB k6 ly5 y5
  clear cy5 fy5 ly5
  clear y5 K5 k6
  have cy6 := cell_of_block y6
  have fy6 := unfrozen_of_block y6
  have ly6 := lt_of_block y6
  have I2 := Lib.hid i2
  have J2 := Lib.hid j2
  clear i2 j2
  go_wp2_with fail
  refine (toMsg_is _ m1 w6 (H1.out.below K6) N1.out).mono ?_
  rintro e w7 ⟨p3, q3, n3, rfl, i3, j3, k7⟩
  have K7 := below_next K6 k7
  have y7 := carryB k7 ly6 y6
  replace I2 := Lib.hid (I2.out.below k7)
  clear cy6 fy6 ly6
  clear y6 K6 k7
  have cy7 := cell_of_block y7
  have fy7 := unfrozen_of_block y7
  have ly7 := lt_of_block y7
  have I3 := Lib.hid i3
  have J3 := Lib.hid j3
  clear i3 j3
  go_wp2_with fail
  obtain ⟨Y, hY, sY, uY, kY⟩ := blocks1 w7 (.cells #[.int .i64 m1.k, .int .i64 m1.f, .int .i64 m1.v, .int .i64 m1.s, .int .i64 m1.r.c, .int .i64 m1.r.n, .int .i64 m1.r.o, .int .i64 m1.r.x, .int .i64 m1.r.y, .slice (some ⟨p3, 0, none⟩) m1.cl.length m1.cl.length, .slice (some ⟨q3, 0, none⟩) m1.vs.length m1.vs.length] 34)
  rw [← hY]
  clear hY
  have KY := below_next K7 kY
  have yY := carryB kY ly7 y7
  replace I2 := Lib.hid (I2.out.below kY)
  replace I3 := Lib.hid (I3.out.below kY)
  clear cy7 fy7 ly7
  clear y7 K7 kY sY
  refine (SaidHas_c _ _ n2 n3 Y I2.out I3.out).mono ?_
  rintro e w8 ⟨rfl, k8⟩
  rw [hasM_map J2.out J3.out]
  have K8 := below_next KY k8
  have y8 := carryB k8 (lt_of_block yY) yY
  have u8 := carryB k8 (lt_of_block uY) uY
  replace I2 := Lib.hid (I2.out.below k8)
  replace I3 := Lib.hid (I3.out.below k8)
  clear yY uY KY k8
  have cy8 := cell_of_block y8
  have fy8 := unfrozen_of_block y8
  have ly8 := lt_of_block y8
  have cu8 := cell_of_block u8
  have fu8 := unfrozen_of_block u8
  have lu8 := lt_of_block u8
  generalize hasM ms m1 = b
  have hbb : (b != b) = false := by simp
  go_wp2_with fail
  refine (toMsgS_is _ ms w8 (H0.out.below K8) N0.out.1 N0.out.2).mono ?_
  rintro e w9 ⟨p4, n4, rfl, i4, j4, k9⟩
  have K9 := below_next K8 k9
  have y9 := carryB k9 ly8 y8
  have u9 := carryB k9 lu8 u8
  replace I2 := Lib.hid (I2.out.below k9)
  replace I3 := Lib.hid (I3.out.below k9)
  clear cy8 fy8 ly8 cu8 fu8 lu8
  clear y8 u8 K8 k9
  have cy9 := cell_of_block y9
  have fy9 := unfrozen_of_block y9
  have ly9 := lt_of_block y9
  have cu9 := cell_of_block u9
  have fu9 := unfrozen_of_block u9
  have lu9 := lt_of_block u9
  have I4 := Lib.hid i4
  have J4 := Lib.hid j4
  clear i4 j4
  go_wp2_with fail
  refine (eqMsgS_c _ _ n2 n4 w9 I2.out I4.out (J2.out.trans J4.out.symm)).mono ?_
  rintro e w10 ⟨rfl, k10⟩
  have K10 := below_next K9 k10
  have y10 := carryB k10 ly9 y9
  have u10 := carryB k10 lu9 u9
  replace I3 := Lib.hid (I3.out.below k10)
  clear cy9 fy9 ly9 cu9 fu9 lu9
  clear y9 u9 K9 k10 I2 I4 J2 J4 H0 N0
  have cy10 := cell_of_block y10
  have fy10 := unfrozen_of_block y10
  have ly10 := lt_of_block y10
  have cu10 := cell_of_block u10
  have fu10 := unfrozen_of_block u10
  have lu10 := lt_of_block u10
  go_wp2_with fail
  go_region_held3 (fun w' => (∀ b o, b < w10.heap.size → w'.cell? ⟨b, o, none⟩ = w10.cell? ⟨b, o, none⟩) ∧ Below w10.heap.size w10 w')
    (first | with_reducible exact Kept.start _ | with_reducible exact Kept.drew (by assumption) | with_reducible exact kS | with_reducible exact kS')
    (first
    | (go_at_call 9; refine (toMsg_is _ m1 _ (H1.out.below (below_next K10 (by assumption : _ ∧ _).2)) N1.out).mono ?_; rintro e w11 ⟨p5, q5, n5, rfl, i5, j5, k11⟩; have kS := Kept.next (Nat.le_refl _) (by assumption) k11)
    | (go_at_call 11; refine (eqMsg_c _ _ n3 n5 _ (I3.out.below kS.2) i5 (J3.out.trans j5.symm)).mono ?_; rintro e w12 ⟨rfl, k12⟩; have kS' := Kept.next (Nat.le_refl _) kS k12))
  go_wp2_with fail
  go_ret
  exact ⟨rfl, below_next K10 kS'.2⟩
end Go.Proofs.Ytgdhieffjflejaa

/-! FnExactSaidHas: the law returns true for every input; no condition. -/
namespace Go.Proofs.Ytgdhieffjflejaa.fnExactSaidHas
open Go.ChangeShapes hiding open_int
open Go.WideShapes Go.ChangeAt Go.RowKit
open Go.ChangeMaps (shut_string)
set_option linter.unusedVariables false

theorem own : ownKnob Try.prog.godebug = none := by kernel_rfl
theorem laidOut : laidOutB Try.prog = true := by kernel_rfl

set_option maxRecDepth 100000 in
theorem lifted (os : Os) (started : os.Started) (H : Type) (enc : TypeId × Value → H) :
    ReturnsInHanded {} Try.checked os 4 .any (Rows.fnExactSaidHasSpec.pre6 enc Try.prog Try.f4 Rows.fnExactSaidHasRow.domain false) (Rows.fnExactSaidHasSpec.post enc Try.prog Try.f4 false true false false) := by
  refine returnsInHanded_of_change (C := Try.checked) own started (by kernel_rfl) Try.func4
    (ChangeSpec.witness6 (enc := enc) (C := Try.checked) false ⟨#[], #[.slice none 0 0, .agg #[.int .i64 0, .int .i64 0, .int .i64 0, .int .i64 0, .int .i64 0, .int .i64 0, .int .i64 0, .int .i64 0, .int .i64 0, .slice none 0 0, .slice none 0 0]], []⟩ 8 (by kernel_rfl) (by kernel_rfl) (by kernel_rfl) (by kernel_rfl)) ?_
  intro W base args ds gs before hval0 hW hcnd _
  have hval : ∀ (j : Nat) t v, Try.f4.params[j]? = some t → args[j]? = some v → Value.okWide Try.prog W .any base t v := hval0
  have hW' := hW
  obtain ⟨p, q, hA0, hV, rfl, hfz, hnd⟩ := hW
  have hA : DataW.TrodAll enc Try.prog W 0 (fun _ => true) true Try.f4.params.toList args.toList ds p := hA0
  rw [Try.params4] at hA hval
  obtain ⟨v0, vs0, d0, ds0, p0, q0, hargs, rfl, rfl, h0, r0⟩ := trodAll_cons hA
  obtain ⟨v1, vs1, d1, ds1, p1, q1, rfl, rfl, rfl, h1, r1⟩ := trodAll_cons r0
  obtain ⟨rfl, rfl, rfl⟩ := trodAll_nil r1
  obtain rfl : args = #[v0, v1] := by cases args; simp_all
  obtain ⟨rfl, rfl⟩ := trodVars_none hV
  have lt0 : ∀ x ∈ p0, x.block < W.heap.size := by obtain ⟨m, hm⟩ := h0; exact DataW.trod_lt m _ _ _ hm
  obtain ⟨z0, o0⟩ := open_SMsg (hval 0 37 v0 rfl rfl) h0
  have lt1 : ∀ x ∈ p1, x.block < W.heap.size := by obtain ⟨m, hm⟩ := h1; exact DataW.trod_lt m _ _ _ hm
  obtain ⟨z1, o1⟩ := open_Msg (hval 1 27 v1 rfl rfl) h1
  clear hA0 hval0
  refine (walk v0 z0 v1 z1 W o0 o1).mono fun e W' ⟨he, bel⟩ => ?_
  subst he
  exact ⟨_, rfl, _, _, _, [], _, [], hW', trodAll_mk1 (shut_bool Try.underlying4 _), (trodAll_cons_mk (Below.trod laidOut (by kernel_rfl) (of_decide_eq_true (by kernel_rfl)) h0 bel lt0) (trodAll_cons_mk (Below.trod laidOut (by kernel_rfl) (of_decide_eq_true (by kernel_rfl)) h1 bel lt1) trodAll_mk0)), rfl, bel.frame _, fun h => by cases h⟩

theorem over : Rows.fnExactSaidHasRow.holds Try.pinned (OpenSpec.ofChange Rows.fnExactSaidHasSpec) :=
  OpenClaim.holds_of_wide 4 Try.f4 rfl rfl rfl rfl rfl rfl rfl ⟨rfl, rfl, rfl, rfl, rfl⟩ rfl rfl rfl rfl rfl (by kernel_rfl) Try.func4 (by kernel_rfl)
    (of_decide_eq_true (by kernel_rfl)) (by unfold Func.isWrapper; first | (rw [if_pos (by decide +kernel)]; kernel_rfl) | (rw [if_neg (by decide +kernel)]; exact ⟨rfl, rfl⟩))
    (fun os started H enc _ => lifted os started H enc)

theorem proved : Rows.FnExactSaidHasSaid := over
end Go.Proofs.Ytgdhieffjflejaa.fnExactSaidHas
