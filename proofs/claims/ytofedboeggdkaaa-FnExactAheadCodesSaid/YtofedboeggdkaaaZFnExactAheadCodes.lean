/- The walk of FnExactAheadCodes; no condition. | FnExactAheadCodes: the law returns true for every input; no condition. -/
import Derived.Test.YtofedboeggdkaaaKI
import Derived.Test.YtofedboeggdkaaaKB
import Derived.Test.YtofedboeggdkaaaKA
import Derived.ProofKit
import Derived.OpenShut
import Derived.ShutString
import Derived.ChangeOld
import Derived.Below
set_option linter.unusedSimpArgs false
set_option linter.unusedVariables false
/-! The walk of FnExactAheadCodes; no condition. -/
namespace Go.Proofs.Ytofedboeggdkaaa
open Go.RowKit Go.Joins

theorem codesA_len (z : Ah) : (codesA z).length ≤ 60 := by
  unfold codesA
  split
  · rename_i h
    rw [codesG_length]
    have := (aheadB_good h).2.2
    omega
  · simp

set_option maxRecDepth 100000 in
set_option maxHeartbeats 16000000 in
theorem fnExactAheadCodes.walk (v0 : Value) (z : Ah) (w : World) (h0 : IsAh w v0 z) :
    Calls Try.prog 11 #[v0] w fun e w' => e = .returned (.bool true) ∧ Below w.heap.size w w' := by
  obtain ⟨u0, u1, rfl, ⟨a0, c0, rfl, hl0, hm0, hr0⟩, ⟨a1, c1, rfl, hl1, hm1, hr1⟩⟩ := h0
  have S0 := Lib.hid (show IsSl w (.slice a0 z.dn.length c0) 5 Rq.cs z.dn from ⟨a0, c0, rfl, hl0, hm0, hr0⟩)
  have S1 := Lib.hid (show IsSl w (.slice a1 z.wt.length c1) 5 Rq.cs z.wt from ⟨a1, c1, rfl, hl1, hm1, hr1⟩)
  have HM := Lib.hid (And.intro hm0 hm1)
  clear hr0 hr1 hm0 hm1
  go_enter Try.func11, Try.ntmps11
  go_wp2_with fail
  obtain ⟨W, hW, sW, aW, kW⟩ := blocks1 w (.cells #[.slice a0 z.dn.length c0, .slice a1 z.wt.length c1, .int .i64 z.bk] 24)
  rw [← hW]
  clear hW
  refine (szAhead_c a0 a1 z.dn.length z.wt.length c0 c1 z.bk W hl0 HM.out.1 hl1 HM.out.2).mono ?_
  rintro e w1 ⟨rfl, k1⟩
  have B1 := Lib.hid (carryN k1 aW)
  have K1 := Lib.hid (below_next kW k1)
  clear k1 kW aW sW
  by_cases hs : z.dn.length + z.wt.length ≤ 1048576
  case neg =>
    rw [if_neg hs]
    go_wp2_with fail
    go_ret
    exact ⟨rfl, K1.out⟩
  rw [if_pos hs]
  have hs' : ¬ (1048576 - (z.dn.length : Int) - (z.wt.length : Int)) < 0 := by omega
  have hz0 : z.dn.length ≤ 1048576 := by omega
  have hz1 : z.wt.length ≤ 1048576 := by omega
  have CS := fun (a0 a1 : Option Addr) (c0 c1 : Nat) w h0 h1 => sAheadCodes_c z a0 a1 c0 c1 w h0 h1 hs
  have CI := fun (a0 a1 : Option Addr) (c0 c1 : Nat) w h0 h1 => AheadCodes_f z a0 a1 c0 c1 w h0 h1 hs
  have hy := codesA_len z
  generalize codesA z = zs at CS CI hy
  unfold IntsOwn at CS
  unfold IntsFit at CI
  obtain ⟨l, hl⟩ : ∃ l, zs.length = l := ⟨_, rfl⟩
  have HL := Lib.hid hl
  rw [hl] at hy CS CI
  replace CS := Lib.hid CS
  replace CI := Lib.hid CI
  clear hl
  have cB := cell_of_block B1.out
  have lB := lt_of_block B1.out
  go_wp2_with fail
  refine (toAhead_c z a0 a1 c0 c1 w1 (S0.out.below K1.out) (S1.out.below K1.out) hz0 hz1).mono ?_
  rintro e w2 ⟨g0, g1, rfl, i0, i1, k2⟩
  have B2 := Lib.hid (carryN k2 B1.out)
  have K2 := Lib.hid (below_next K1.out k2)
  clear k2 cB lB B1 K1
  go_wp2_with fail
  refine (CS.out _ _ _ _ w2 i0 i1).mono ?_
  rintro e w3 ⟨aQ, cQ, rfl, rQ, k3⟩
  have B3 := Lib.hid (carryN k3 B2.out)
  have RQ := Lib.hid rQ
  have K3 := Lib.hid (below_next K2.out k3)
  clear k3 rQ i0 i1 B2 K2
  have cB := cell_of_block B3.out
  have lB := lt_of_block B3.out
  go_wp2_with fail
  refine (toAhead_b z a0 a1 c0 c1 w3 (S0.out.below K3.out) (S1.out.below K3.out) hz0 hz1).mono ?_
  rintro e w4 ⟨x0, x1, rfl, bx0, bx1, hx0, hx01, k4⟩
  have B4 := Lib.hid (carryN k4 B3.out)
  have RQ4 := Lib.hid (RQ.out.below k4)
  have QB := Lib.hid (fun g (hg : rowBlk aQ cQ = some g) => Nat.lt_of_lt_of_le (RQ.out.blk hg).2 hx0)
  have K4 := Lib.hid (below_next K3.out k4)
  have BX0 := Lib.hid bx0
  have BX1 := Lib.hid bx1
  have HB0 := Lib.hid (show w.heap.size < x0 by omega)
  have HX01 := Lib.hid hx01
  clear k4 cB lB B3 K3 RQ bx0 bx1 hx0 hx01
  go_wp2_with fail
  obtain ⟨w5, hw5, sw5, xB, k5⟩ := blocks1 w4 (.cells #[.slice (some ⟨x0, 0, none⟩) z.dn.length z.dn.length, .slice (some ⟨x1, 0, none⟩) z.wt.length z.wt.length, .int .i64 z.bk] 30)
  rw [← hw5]
  clear hw5 sw5
  obtain ⟨X, hX⟩ : ∃ X, X = w4.heap.size := ⟨_, rfl⟩
  have HXX := Lib.hid (show x1 < X ∧ w.heap.size < X by have := lt_of_block BX1.out; have := lt_of_block B4.out; omega)
  rw [← hX] at xB ⊢
  have X0 := Lib.hid (carryN k5 BX0.out)
  have X1 := Lib.hid (carryN k5 BX1.out)
  have X5 := Lib.hid xB
  have B5 := Lib.hid (carryN k5 B4.out)
  have RQ5 := Lib.hid (RQ4.out.below k5)
  have K5 := Lib.hid (below_next K4.out k5)
  clear k5 xB hX BX0 BX1 B4 RQ4 K4
  have HX5 := Lib.hid (lt_of_block X5.out)
  refine (CI.out _ _ _ _ w5 (sl_of_block five_len X0.out rfl hz0) (sl_of_block five_len X1.out rfl hz1)).mono ?_
  rintro e w6 ⟨aP, rfl, rP, k6⟩
  have RP6 := Lib.hid rP
  have PB := Lib.hid (fun g (hg : rowBlk aP l = some g) => Nat.lt_of_lt_of_le HX5.out (rP.blk hg).1)
  have X06 := Lib.hid (carryN k6 X0.out)
  have X16 := Lib.hid (carryN k6 X1.out)
  have X6 := Lib.hid (carryN k6 X5.out)
  have B6 := Lib.hid (carryN k6 B5.out)
  have RQ6 := Lib.hid (RQ5.out.below k6)
  have K6 := Lib.hid (below_next K5.out k6)
  clear k6 rP X0 X1 X5 B5 RQ5 K5
  go_wp2_with fail
  refine (eqIntS_c _ _ zs w6 (RP6.out.slG int_len HL.out) (RQ6.out.slG int_len HL.out)).mono ?_
  rintro e w7 ⟨rfl, k7⟩
  have RP7 := Lib.hid (RP6.out.below k7)
  have X07 := Lib.hid (carryN k7 X06.out)
  have X17 := Lib.hid (carryN k7 X16.out)
  have X7 := Lib.hid (carryN k7 X6.out)
  have B7 := Lib.hid (carryN k7 B6.out)
  have RQ7 := Lib.hid (RQ6.out.below k7)
  have K7 := Lib.hid (below_next K6.out k7)
  clear k7 RP6 X06 X16 X6 B6 RQ6 K6
  have cB := cell_of_block B7.out
  have lB := lt_of_block B7.out
  have cX := cell_of_block X7.out
  have lX := lt_of_block X7.out
  go_wp2_with fail
  refine wp_region_held_drew (S := fun w' => ((∀ b o, b < w7.heap.size → (w').cell? ⟨b, o, none⟩ = (w7).cell? ⟨b, o, none⟩) ∧ Below (w7.heap.size) (w7) (w'))) (by kernel_rfl) (KeptB.drew (KeptB.refl _ _)) (fun hHeld => ?_)
  refine wpAnyH_take (i := 0) (oi := _) (v := ?_) (by (simp only [List.getElem?_toArray]; rfl)) (by kernel_rfl) (by kernel_rfl) (by kernel_rfl) (by exact fun _ _ _ h => h) (Or.inl ⟨by rfl, ?_⟩) (by assumption) ?_
  rotate_left
  · intro wS hSw
    go_simp
    all_goals first | with_reducible rfl | rw [if_neg (by omega)]
  simp only [Act.put, List.setIfInBounds_toArray, List.set]
  refine wpAnyH_take (i := 1) (oi := _) (v := ?_) (by (simp only [List.getElem?_toArray]; rfl)) (by kernel_rfl) (by kernel_rfl) (by kernel_rfl) (by exact fun _ _ _ h => h) (Or.inl ⟨by rfl, ?_⟩) (by assumption) ?_
  rotate_left
  · intro wS hSw
    go_simp
    all_goals first | with_reducible rfl | rw [if_neg (by omega)]
  simp only [Act.put, List.setIfInBounds_toArray, List.set]
  have t0 := Lib.hid (KeptB.drew (KeptB.refl w7.heap.size w7))
  clear hHeld
  refine wpAnyH_ready (rs := [2]) (by kernel_rfl) (by simp) ?_
  refine AllReadyH.cons (o := _) (by (simp only [List.getElem?_toArray]; rfl)) (fun K hK => ?_) AllReadyH.nil
  go_simp
  refine (toAhead_c z a0 a1 c0 c1 _ (S0.out.below (below_next K7.out t0.out.2)) (S1.out.below (below_next K7.out t0.out.2)) hz0 hz1).mono ?_
  rintro e u1 ⟨g0, g1, rfl, i0, i1, kk⟩
  have t1 := Lib.hid (KeptB.next (Nat.le_refl _) t0.out kk)
  have I0 := Lib.hid i0
  have I1 := Lib.hid i1
  clear kk i0 i1
  refine hK.out _ _ t1.out (fun hHeld => ?_)
  clear hK K
  try simp only [Act.put, List.setIfInBounds_toArray, List.set]
  clear hHeld
  refine wpAnyH_ready (rs := [3]) (by kernel_rfl) (by simp) ?_
  refine AllReadyH.cons (o := _) (by (simp only [List.getElem?_toArray]; rfl)) (fun K hK => ?_) AllReadyH.nil
  go_simp
  refine (eqAhead_c z _ _ _ _ _ _ _ _ _ (sl_of_block five_len (carryN t1.out.2 X07.out) rfl hz0) (sl_of_block five_len (carryN t1.out.2 X17.out) rfl hz1) I0.out I1.out).mono ?_
  rintro e u2 ⟨rfl, kk⟩
  have t2 := Lib.hid (KeptB.next (Nat.le_refl _) t1.out kk)
  clear kk I0 I1
  refine hK.out _ _ t2.out (fun hHeld => ?_)
  clear hK K
  try simp only [Act.put, List.setIfInBounds_toArray, List.set]
  refine wpAnyH_take (i := 4) (oi := _) (v := ?_) (by (simp only [List.getElem?_toArray]; rfl)) (by kernel_rfl) (by kernel_rfl) (by kernel_rfl) (by exact fun _ _ _ h => h) (Or.inl ⟨by rfl, ?_⟩) (by assumption) ?_
  rotate_left
  · intro wS hSw
    go_simp
    all_goals first | with_reducible rfl | rw [if_neg (by omega)]
  simp only [Act.put, List.setIfInBounds_toArray, List.set]
  refine wpAnyH_done (by kernel_rfl) ?_ _
  have RP8 := Lib.hid (RP7.out.below t2.out.2)
  have X08 := Lib.hid (carryN t2.out.2 X07.out)
  have X18 := Lib.hid (carryN t2.out.2 X17.out)
  have X8 := Lib.hid (carryN t2.out.2 X7.out)
  have B8 := Lib.hid (carryN t2.out.2 B7.out)
  have RQ8 := Lib.hid (RQ7.out.below t2.out.2)
  have K8 := Lib.hid (below_next K7.out t2.out.2)
  clear t0 t1 t2 hHeld cB lB cX lX RP7 X07 X17 X7 B7 RQ7 K7
  have cX := cell_of_block X8.out
  have lX := lt_of_block X8.out
  go_wp2_with fail
  refine (markAhead_r (B0 := x0) (B1 := x1) z.bk 1 _ (Row.of_block five_len X08.out (Nat.le_refl _) (by simp only [maxLen]; omega)) (Row.of_block five_len X18.out (Nat.le_refl _) (by simp only [maxLen]; omega)) (fun g hg h => by have := rowBlk_some hg; have := rowBlk_some h; have := HX01.out; omega) rfl rfl (by omega) (by omega) (by omega) (by omega)).mono ?_
  rintro e w9 ⟨rfl, -, -, tX⟩
  have TX := Lib.hid tX
  have hx0 : ∀ b, rowBlk (some ⟨x0, 0, none⟩) z.dn.length = some b → b = x0 := fun b hb => rowBlk_some hb
  have hx1 : ∀ b, rowBlk (some ⟨x1, 0, none⟩) z.wt.length = some b → b = x1 := fun b hb => rowBlk_some hb
  have RP9 := Lib.hid (RP8.out.turned tX (fun g hg h => by have := PB.out g hg; have := HXX.out; have := HX01.out; rcases h with h | h; have := hx0 g h; omega; have := hx1 g h; omega))
  have RQ9 := Lib.hid (RQ8.out.turned tX (fun g hg h => by have := QB.out g hg; have := HX01.out; rcases h with h | h; have := hx0 g h; omega; have := hx1 g h; omega))
  have B9 := Lib.hid (carryT tX B8.out (fun h => by have := HB0.out; have := HX01.out; rcases h with h | h; have := hx0 _ h; omega; have := hx1 _ h; omega))
  have K9 := Lib.hid (K8.out.trans (tX.below K8.out.size (fun b h => by have := HB0.out; have := HX01.out; rcases h with h | h; have := hx0 _ h; omega; have := hx1 _ h; omega)))
  clear tX TX hx0 hx1 cX lX RP8 X08 X18 X8 B8 RQ8 K8
  have hng : ¬ (1 + ((z.dn.length * 5 : Nat) : Int) + ((z.wt.length * 5 : Nat) : Int)) < 0 := by omega
  go_wp2_with fail
  refine (eqIntS_c _ _ zs w9 (RP9.out.slG int_len HL.out) (RQ9.out.slG int_len HL.out)).mono ?_
  rintro e w10 ⟨rfl, k10⟩
  have RP10 := Lib.hid (RP9.out.below k10)
  have RQ10 := Lib.hid (RQ9.out.below k10)
  have B10 := Lib.hid (carryN k10 B9.out)
  have K10 := Lib.hid (below_next K9.out k10)
  clear k10 hng RP9 RQ9 B9 K9
  go_wp2_with fail
  refine (markInt_r 1 w10 RP10.out HL.out (by omega) (by omega) (by omega)).mono ?_
  rintro e w11 ⟨rfl, mP⟩
  have RQ11 := Lib.hid (RQ10.out.kept mP.grown (fun g hg e => by have := QB.out g hg; have := PB.out g e; have := HXX.out; have := HX01.out; omega))
  have B11 := Lib.hid ((mP.grown.block w.heap.size (lt_of_block B10.out) (fun e => by have := PB.out _ e.symm; have := HXX.out; omega)).trans B10.out)
  have K11 := Lib.hid (K10.out.grown mP.grown K10.out.size (fun g hg => by have := PB.out g hg; have := HXX.out; omega))
  have NP := Lib.hid (show Marks w11 aP l 1 1 from fun g hg => ⟨by have := (RP10.out.blk hg).2; have := mP.size; omega, fun j hj => mP.cells g hg j hj⟩)
  clear mP RQ10 B10 K10
  have hny : ¬ (1 + (l : Int)) < 0 := by omega
  go_wp2_with fail
  refine (heldInt_r 1 w11 RP10.out HL.out (fun g hg j hj => (NP.out g hg).2 j hj) (by omega) (by omega) (by omega)).mono ?_
  rintro e w12 ⟨rfl, rfl⟩
  have cB := cell_of_block B11.out
  have lB := lt_of_block B11.out
  go_wp2_with fail
  refine (toAhead_c z a0 a1 c0 c1 w11 (S0.out.below K11.out) (S1.out.below K11.out) hz0 hz1).mono ?_
  rintro e w13 ⟨g0, g1, rfl, i0, i1, k13⟩
  have RQ13 := Lib.hid (RQ11.out.below k13)
  have NP13 := Lib.hid (NP.out.below k13)
  have K13 := Lib.hid (below_next K11.out k13)
  clear k13 cB lB RQ11 NP K11 B11
  go_wp2_with fail
  refine (CI.out _ _ _ _ w13 i0 i1).mono ?_
  rintro e w14 ⟨aN, rfl, rN, k14⟩
  have RN := Lib.hid rN
  have RQ14 := Lib.hid (RQ13.out.below k14)
  have NP14 := Lib.hid (NP13.out.below k14)
  have K14 := Lib.hid (below_next K13.out k14)
  clear k14 rN i0 i1 RQ13 NP13 K13
  go_wp2_with fail
  refine (eqIntS_c _ _ zs w14 (RN.out.slG int_len HL.out) (RQ14.out.slG int_len HL.out)).mono ?_
  rintro e w15 ⟨rfl, k15⟩
  have NP15 := Lib.hid (NP14.out.below k15)
  have K15 := Lib.hid (below_next K14.out k15)
  clear k15 NP14 K14
  go_wp2_with fail
  refine (heldInt_r 1 w15 RP10.out HL.out (fun g hg j hj => (NP15.out g hg).2 j hj) (by omega) (by omega) (by omega)).mono ?_
  rintro e w16 ⟨rfl, rfl⟩
  go_wp2_with fail
  go_ret
  exact ⟨rfl, K15.out⟩
end Go.Proofs.Ytofedboeggdkaaa

/-! FnExactAheadCodes: the law returns true for every input; no condition. -/
namespace Go.Proofs.Ytofedboeggdkaaa.fnExactAheadCodes
open Go.ChangeShapes hiding open_int
open Go.WideShapes Go.ChangeAt Go.RowKit
open Go.ChangeMaps (shut_string)
set_option linter.unusedVariables false

theorem own : ownKnob Try.prog.godebug = none := by kernel_rfl
theorem laidOut : laidOutB Try.prog = true := by kernel_rfl

set_option maxRecDepth 100000 in
theorem lifted (os : Os) (started : os.Started) (H : Type) (enc : TypeId × Value → H) :
    ReturnsInHanded {} Try.checked os 11 .any (Rows.fnExactAheadCodesSpec.pre6 enc Try.prog Try.f11 Rows.fnExactAheadCodesRow.domain false) (Rows.fnExactAheadCodesSpec.post enc Try.prog Try.f11 false true false false) := by
  refine returnsInHanded_of_change (C := Try.checked) own started (by kernel_rfl) Try.func11
    (ChangeSpec.witness6 (enc := enc) (C := Try.checked) false ⟨#[], #[.agg #[.slice none 0 0, .slice none 0 0, .int .i64 0]], []⟩ 8 (by kernel_rfl) (by kernel_rfl) (by kernel_rfl) (by kernel_rfl)) ?_
  intro W base args ds gs before hval0 hW hcnd _
  have hval : ∀ (j : Nat) t v, Try.f11.params[j]? = some t → args[j]? = some v → Value.okWide Try.prog W .any base t v := hval0
  have hW' := hW
  obtain ⟨p, q, hA0, hV, rfl, hfz, hnd⟩ := hW
  have hA : DataW.TrodAll enc Try.prog W 0 (fun _ => true) true Try.f11.params.toList args.toList ds p := hA0
  rw [Try.params11] at hA hval
  obtain ⟨v0, vs0, d0, ds0, p0, q0, hargs, rfl, rfl, h0, r0⟩ := trodAll_cons hA
  obtain ⟨rfl, rfl, rfl⟩ := trodAll_nil r0
  obtain rfl : args = #[v0] := by cases args; simp_all
  obtain ⟨rfl, rfl⟩ := trodVars_none hV
  have lt0 : ∀ x ∈ p0, x.block < W.heap.size := by obtain ⟨m, hm⟩ := h0; exact DataW.trod_lt m _ _ _ hm
  obtain ⟨z0, o0⟩ := open_Ahead (hval 0 24 v0 rfl rfl) h0
  clear hA0 hval0
  refine (walk v0 z0 W o0).mono fun e W' ⟨he, bel⟩ => ?_
  subst he
  exact ⟨_, rfl, _, _, _, [], _, [], hW', trodAll_mk1 (shut_bool Try.underlying4 _), (trodAll_cons_mk (Below.trod laidOut (by kernel_rfl) (of_decide_eq_true (by kernel_rfl)) h0 bel lt0) trodAll_mk0), rfl, bel.frame _, fun h => by cases h⟩

theorem over : Rows.fnExactAheadCodesRow.holds Try.pinned (OpenSpec.ofChange Rows.fnExactAheadCodesSpec) :=
  OpenClaim.holds_of_wide 11 Try.f11 rfl rfl rfl rfl rfl rfl rfl ⟨rfl, rfl, rfl, rfl, rfl⟩ rfl rfl rfl rfl rfl (by kernel_rfl) Try.func11 (by kernel_rfl)
    (of_decide_eq_true (by kernel_rfl)) (by unfold Func.isWrapper; first | (rw [if_pos (by decide +kernel)]; kernel_rfl) | (rw [if_neg (by decide +kernel)]; exact ⟨rfl, rfl⟩))
    (fun os started H enc _ => lifted os started H enc)

theorem proved : Rows.FnExactAheadCodesSaid := over
end Go.Proofs.Ytofedboeggdkaaa.fnExactAheadCodes
