/- The walk of FnExactGamePut; condition: strconv's table of tens as listed. | FnExactGamePut: the law returns true for every input; condition: the package variables as the row lists them, which the card ties to the program's text. -/
import Derived.Test.YtilldpoleiippaaDoorLG
import Derived.Test.YtilldpoleiippaaDoorLA
import Derived.Test.YtilldpoleiippaaDoorLD
import Derived.Test.YtilldpoleiippaaDoorTie
import Derived.Test.YtilldpoleiippaaDoorCards
import Derived.ProofKit
import Derived.OpenShut
import Derived.ShutString
import Derived.ChangeOld
import Derived.Below
import Derived.OpenVars
import Derived.LaidMore
import Derived.Lay
import Derived.MakeChecks
import Derived.SevenTiedAt
set_option linter.unusedSimpArgs false
set_option linter.unusedVariables false
/-! The walk of FnExactGamePut; condition: strconv's table of tens as listed. -/
namespace Go.Proofs.YtilldpoleiippaaDoor.fnExactGamePut
open Go.RowKit Go.Joins

set_option maxRecDepth 100000 in
set_option maxHeartbeats 2000000 in
theorem walk (v0 : Value) (z : Gm) (w : World) (h0 : IsGm w v0 z) (T : Lib.TabIs Tryd.prog w "internal/strconv.uint64pow10" .u64 Lib.pow10Tab) :
    Calls Tryd.prog 5 #[v0] w fun e w' => e = .returned (.bool true) ∧ Below w.heap.size w w' := by
  obtain ⟨va, vb, vc, rfl, ⟨a0, c0, rfl, hl0, hm0, hr0⟩, ⟨a1, c1, rfl, hl1, hm1, hr1⟩, ⟨a2, c2, rfl, hl2, hm2, hr2⟩⟩ := h0
  have H0 := Lib.hid (show IsSl w (.slice a0 z.es.length c0) 5 Rq.cs z.es from ⟨a0, c0, rfl, hl0, hm0, hr0⟩)
  have H1 := Lib.hid (show IsSl w (.slice a1 z.fl.length c1) 1 intR z.fl from ⟨a1, c1, rfl, hl1, hm1, hr1⟩)
  have H2 := Lib.hid (show IsSl w (.slice a2 z.la.length c2) 1 intR z.la from ⟨a2, c2, rfl, hl2, hm2, hr2⟩)
  have HL := Lib.hid (And.intro hm0 (And.intro hm1 hm2))
  have TT := Lib.hid T
  clear hr0 hr1 hr2 hm0 hm1 hm2 T
  go_enter Tryd.func5, Tryd.ntmps5
  go_wp2_with fail
  obtain ⟨W, hW, sW, aW, kW⟩ := blocks1 w (.cells #[.slice a0 z.es.length c0, .slice a1 z.fl.length c1, .slice a2 z.la.length c2] 36)
  rw [← hW]
  clear hW
  refine (szGame_c a0 a1 a2 _ _ _ c0 c1 c2 _ hl0 HL.out.1 hl1 HL.out.2.1 hl2 HL.out.2.2).mono ?_
  rintro e w1 ⟨rfl, k1⟩
  have K1 := below_next kW k1
  have b1 := carryB k1 (by omega) aW
  have l1 := lt_of_block b1
  have hc1 := cell_of_block b1
  clear k1 aW
  by_cases hs : z.es.length + z.fl.length + z.la.length ≤ 1048576
  · rw [if_pos hs]
    have hs' : ¬ (1048576 - (z.es.length : Int) - (z.fl.length : Int) - (z.la.length : Int)) < 0 := by omega
    go_wp2_with fail
    refine (toGame_c z a0 a1 a2 c0 c1 c2 _ (H0.out.below K1) (H1.out.below K1) (H2.out.below K1) (by omega) (by omega) (by omega)).mono ?_
    rintro e w2 ⟨g0, g1, g2, rfl, i0, i1, i2, k2⟩
    have K2 := below_next K1 k2
    have b2 := carryB k2 (by omega) b1
    clear k2 b1 hc1 K1
    have hc2 := cell_of_block b2
    have l2 := lt_of_block b2
    go_wp2_with fail
    refine (sGamePut_c z _ _ _ _ _ _ _ i0 i1 i2 hs).mono ?_
    rintro e w3 ⟨rfl, k3⟩
    have K3 := below_next K2 k3
    have b3 := carryB k3 (by omega) b2
    clear k3 b2 hc2 K2 i0 i1 i2
    have hc3 := cell_of_block b3
    have l3 := lt_of_block b3
    go_wp2_with fail
    refine (toGame_c z a0 a1 a2 c0 c1 c2 _ (H0.out.below K3) (H1.out.below K3) (H2.out.below K3) (by omega) (by omega) (by omega)).mono ?_
    rintro e w4 ⟨g3, g4, g5, rfl, i3, i4, i5, k4⟩
    have I3 := Lib.hid i3
    have I4 := Lib.hid i4
    have I5 := Lib.hid i5
    have K4 := below_next K3 k4
    have b4 := carryB k4 (by omega) b3
    clear k4 b3 hc3 K3 i3 i4 i5
    have hc4 := cell_of_block b4
    have l4 := lt_of_block b4
    go_wp2_with fail
    obtain ⟨X, hX, sX, aX, kX⟩ := blocks1 w4 (.cells #[.slice (some ⟨g3, 0, none⟩) z.es.length z.es.length, .slice (some ⟨g4, 0, none⟩) z.fl.length z.fl.length, .slice (some ⟨g5, 0, none⟩) z.la.length z.la.length] 41)
    rw [← hX]
    clear hX
    have bX := carryB kX l4 b4
    have KX := below_next K4 kX
    refine (GamePut_c z _ _ _ _ _ _ _ (tab_stays gPow TT.out KX (Nat.le_refl _)) (I3.out.below kX) (I4.out.below kX) (I5.out.below kX) hs).mono ?_
    rintro e w5 ⟨rfl, k5⟩
    have K5 := below_next KX k5
    have b5 := carryB k5 (by omega) bX
    have a5 := carryB k5 (by omega) aX
    have kk := kX.trans (k5.mono (by omega))
    have J3 := Lib.hid (I3.out.below kk)
    have J4 := Lib.hid (I4.out.below kk)
    have J5 := Lib.hid (I5.out.below kk)
    clear k5 kX bX aX hc4 I3 I4 I5 KX K4 b4 kk
    have hb5 := cell_of_block b5
    have ha5 := cell_of_block a5
    have lb := lt_of_block b5
    have la := lt_of_block a5
    go_wp2_with fail
    go_region_held3 (fun w' => (∀ b o, b < w5.heap.size → w'.cell? ⟨b, o, none⟩ = w5.cell? ⟨b, o, none⟩) ∧ Below w5.heap.size w5 w')
      (first | with_reducible exact Kept.start _ | with_reducible exact Kept.drew (by assumption) | with_reducible exact kS | with_reducible exact kS')
      (first
      | (go_at_call 23; refine (toGame_c z a0 a1 a2 c0 c1 c2 _ (H0.out.below (below_next K5 (by assumption : _ ∧ _).2)) (H1.out.below (below_next K5 (by assumption : _ ∧ _).2)) (H2.out.below (below_next K5 (by assumption : _ ∧ _).2)) (by omega) (by omega) (by omega)).mono ?_; rintro e w6 ⟨g6, g7, g8, rfl, i6, i7, i8, k6⟩; have kS := Kept.next (Nat.le_refl _) (by assumption) k6)
      | (go_at_call 25; refine (eqGame_c z _ _ _ _ _ _ _ _ _ _ _ _ _ (J3.out.below kS.2) (J4.out.below kS.2) (J5.out.below kS.2) i6 i7 i8).mono ?_; rintro e w7 ⟨rfl, k7⟩; have kS' := Kept.next (Nat.le_refl _) kS k7))
    go_wp2_with fail
    go_ret
    exact ⟨rfl, below_next K5 kS'.2⟩
  · rw [if_neg hs]
    go_wp2_with fail
    go_ret
    exact ⟨rfl, K1⟩
end Go.Proofs.YtilldpoleiippaaDoor.fnExactGamePut

/-! FnExactGamePut: the law returns true for every input; condition: the package variables as the row lists them, which the card ties to the program's text. -/
namespace Go.Proofs.YtilldpoleiippaaDoor.fnExactGamePut
open Go.ChangeShapes hiding open_int
open Go.WideShapes Go.ChangeAt Go.RowKit
open Go.ChangeMaps (shut_string)
set_option linter.unusedVariables false

theorem own : ownKnob Tryd.prog.godebug = none := by kernel_rfl
theorem laidOut : laidOutB Tryd.prog = true := by kernel_rfl

set_option maxRecDepth 100000 in
theorem lifted (os : Os) (started : os.Started) (H : Type) (enc : TypeId × Value → H) :
    ReturnsInHanded {} Tryd.checked os 5 .any (fun w args => (Rows.fnExactGamePutSpec.pre enc Tryd.prog Tryd.f5 [] false w args ∧ laidMetH Tryd.prog Rows.fnExactGamePutRow.laid w) ∧ sizedMet enc Tryd.prog Tryd.f5 (OpenSpec.ofChange Rows.fnExactGamePutSpec) false w args)
      (Rows.fnExactGamePutSpec.post enc Tryd.prog Tryd.f5 false true false false) := by
  refine returnsInHanded_shaped (C := Tryd.checked) (X := fun w _ => laidMetH Tryd.prog Rows.fnExactGamePutRow.laid w) (fun _ _ _ hh h => h.of_heap hh) own started (by kernel_rfl) Tryd.func5
    (ChangeSpec.witness_shaped (enc := enc) (C := Tryd.checked) (os := os) (X := fun w _ => laidMetH Tryd.prog Rows.fnExactGamePutRow.laid w) false (World.laidAll Tryd.prog os Rows.fnExactGamePutRow.laid) #[.agg #[.slice none 0 0, .slice none 0 0, .slice none 0 0]] 8 (World.laidAll_os _ _ _) (World.shaped_of_ZipB (by kernel_rfl) (by kernel_rfl)) (by kernel_rfl) (by kernel_rfl) (by kernel_rfl)
      (by rw [MakeChecks.laidMetH_plain _ _ _ (by kernel_rfl)]; exact laidMet_laidAll _ (by kernel_rfl) (by kernel_rfl))) ?_
  intro W base args ds gs before hval0 hW hL hsh
  have hval : ∀ (j : Nat) t v, Tryd.f5.params[j]? = some t → args[j]? = some v → Value.okWide Tryd.prog W .any base t v := hval0
  have hW' := hW
  obtain ⟨p, q, hA0, hV0, rfl, hfz, hnd⟩ := hW
  have hA : DataW.TrodAll enc Tryd.prog W 0 (fun _ => true) true Tryd.f5.params.toList args.toList ds p := hA0
  rw [Tryd.params5] at hA hval
  obtain ⟨v0, vs0, d0, ds0, p0, q0, hargs, rfl, rfl, h0, r0⟩ := trodAll_cons hA
  obtain ⟨rfl, rfl, rfl⟩ := trodAll_nil r0
  obtain rfl : args = #[v0] := by cases args; simp_all
  obtain ⟨rfl, rfl⟩ := trodVars_none hV0
  have lt0 : ∀ x ∈ p0, x.block < W.heap.size := by obtain ⟨m, hm⟩ := h0; exact DataW.trod_lt m _ _ _ hm
  obtain ⟨z0, o0⟩ := open_Game (hval 0 36 v0 rfl rfl) h0
  clear hA0 hval0 hV0
  have hL1 : laidMet Tryd.prog Rows.fnExactGamePutRow.laid W := by rw [← MakeChecks.laidMetH_plain _ _ _ (by kernel_rfl)]; exact hL

  have POW := pow_of_laid hL1.tail.tail
  refine (walk v0 z0 W o0 POW).mono fun e W' ⟨he, bel⟩ => ?_
  subst he
  exact ⟨_, rfl, _, _, _, [], _, [], hW', trodAll_mk1 (shut_bool Tryd.underlying4 _), (trodAll_cons_mk (Below.trod laidOut (by kernel_rfl) (of_decide_eq_true (by kernel_rfl)) h0 bel lt0) trodAll_mk0), rfl, bel.frame _, fun h => by cases h⟩

theorem over : Rows.fnExactGamePutRow.holds Tryd.pinned (OpenSpec.ofChange Rows.fnExactGamePutSpec) :=
  OpenClaim.holds_of_wide 5 Tryd.f5 rfl rfl rfl rfl rfl rfl rfl ⟨rfl, rfl, rfl, rfl, rfl⟩ rfl rfl rfl rfl rfl (by kernel_rfl) Tryd.func5 (by kernel_rfl)
    (of_decide_eq_true (by kernel_rfl)) (by unfold Func.isWrapper; first | (rw [if_pos (by decide +kernel)]; kernel_rfl) | (rw [if_neg (by decide +kernel)]; exact ⟨rfl, rfl⟩))
    (fun os started H enc _ => lifted os started H enc)

theorem proved : Rows.FnExactGamePutCardSaid :=
  Claim7.holds_tied_plain_at .later [] _ true _ _ over (fun _ h => by cases h) (by kernel_rfl) (fun _ h => by cases h) fnExactGamePut_row_tie rfl ⟨rfl, rfl⟩ (by kernel_rfl) rfl
    (fun f fn hf hfn => by
      obtain rfl : f = 5 := Option.some.inj ((show Tryd.prog.funcNamed "loop.example/wapentake/laws.FnExactGamePut" = some 5 by kernel_rfl).symm.trans hf) |>.symm
      obtain rfl : fn = Tryd.f5 := (Option.some.inj (Tryd.func5.symm.trans hfn)).symm
      exact ⟨by kernel_rfl, fun j t ht => by
        rw [Tryd.params5] at ht
        have hm : t ∈ [36] := by simpa using Array.mem_of_getElem? ht
        have hall : ([36].all fun u => !Tryd.prog.wantsStandIn u) = true := by kernel_rfl
        exact (show Tryd.prog.wantsStandIn t = false by simpa using List.all_eq_true.1 hall t hm)⟩)
    (by kernel_rfl)
end Go.Proofs.YtilldpoleiippaaDoor.fnExactGamePut
