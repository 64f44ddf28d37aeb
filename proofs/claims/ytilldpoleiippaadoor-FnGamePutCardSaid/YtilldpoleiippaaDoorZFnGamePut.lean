/- The walk of FnGamePut: it returns true for every code; condition: the package variables as listed. | FnGamePut: the law returns true for every input; condition: the package variables as the row lists them, which the card ties to the program's text. -/
import Derived.Test.YtilldpoleiippaaDoorLI
import Derived.Test.YtilldpoleiippaaDoorDrawGameP
import Derived.Test.YtilldpoleiippaaDoorWpGame
import Derived.Test.YtilldpoleiippaaDoorLA
import Derived.Test.YtilldpoleiippaaDoorLD
import Derived.Test.YtilldpoleiippaaDoorTie
import Derived.Test.YtilldpoleiippaaDoorCards
import Derived.ProofKit
import Derived.OpenShut
import Derived.ShutString
import Derived.ChangeOld
import Derived.Below
import Derived.OpenVars
import Derived.LaidMore
import Derived.Lay
import Derived.MakeChecks
import Derived.SevenTiedAt
set_option linter.unusedSimpArgs false
set_option linter.unusedVariables false
/-! The walk of FnGamePut: it returns true for every code; condition: the package variables as listed. -/
namespace Go.Proofs.YtilldpoleiippaaDoor.fnGamePut
open Go.RowKit Go.Joins

set_option maxRecDepth 100000 in
set_option maxHeartbeats 1000000 in
theorem walk (v : Value) (z : Bts) (w : World) (hz : IsBytes w v z) (EA : EnvA w) :
    Calls Tryd.prog 11 #[v] w fun e w' => e = .returned (.bool true) ∧ Below w.heap.size w w' := by
  obtain ⟨a, n, cap⟩ := z
  have HZ := Lib.hid hz
  obtain ⟨hv, hlc, hm, -⟩ := hz
  simp only at hv hlc hm
  subst hv
  have EE := Lib.hid EA
  clear EA
  by_cases hbig : (1048576 : Int) < n
  · go_enter Tryd.func11, Tryd.ntmps11
    go_wp2_with fail
    go_ret
    exact ⟨rfl, Below.refl _ _⟩
  · go_enter Tryd.func11, Tryd.ntmps11
    go_wp2_with fail
    refine (DrawGamePut_c _ _ w HZ.out).mono ?_
    rintro e w1 ⟨z, a0, a1, a2, c0, c1, c2, rfl, l0, l1, l2, i0, i1, i2, k1⟩
    have CS := Lib.hid (fun V h0 h1 h2 => sGamePut_c z a0 a1 a2 c0 c1 c2 V h0 h1 h2 (by omega))
    have CI := Lib.hid (fun V T h0 h1 h2 => GamePut_c z a0 a1 a2 c0 c1 c2 V T h0 h1 h2 (by omega))
    have CO := Lib.hid (fun V h0 h1 h2 => GameOk_c z a0 a1 a2 c0 c1 c2 V h0 h1 h2 (by omega))
    have HP := Lib.hid (fun (h : gameB z = true) => isGame_put h)
    have HQ := Lib.hid (fun (h : gameB z = false) => gamePut_no h)
    have HR := Lib.hid (fun (h : gameB z = true) => gamePut_yes h)
    have hlen := gamePut_len z
    generalize gamePut z = tx at CS CI HP HQ HR hlen
    obtain ⟨b, hb⟩ : ∃ b, gameB z = b := ⟨_, rfl⟩
    rw [hb] at CO HP HQ HR
    obtain ⟨m0, hm0⟩ : ∃ m, m = z.es.length := ⟨_, rfl⟩
    obtain ⟨m1, hm1⟩ : ∃ m, m = z.fl.length := ⟨_, rfl⟩
    obtain ⟨m2, hm2⟩ : ∃ m, m = z.la.length := ⟨_, rfl⟩
    rw [← hm0] at CS CI CO i0 ⊢
    rw [← hm1] at CS CI CO i1 ⊢
    rw [← hm2] at CS CI CO i2 ⊢
    have M := Lib.hid (And.intro hm0 (And.intro hm1 hm2))
    have I0 := Lib.hid i0
    have I1 := Lib.hid i1
    have I2 := Lib.hid i2
    clear l0 l1 l2 i0 i1 i2 hm0 hm1 hm2 hb
    go_wp2_with fail
    obtain ⟨w2, hw2, s2, a2', k2⟩ := blocks1 w1 (.cells #[.slice a0 m0 c0, .slice a1 m1 c1, .slice a2 m2 c2] 41)
    rw [← hw2]
    clear hw2
    have K2 := below_next k1 k2
    refine (CI.out w2 (EE.out.below K2).pow (I0.out.below k2) (I1.out.below k2) (I2.out.below k2)).mono ?_
    rintro e w3 ⟨rfl, k3⟩
    have K3 := below_next K2 k3
    have k13 := below_next k2 k3
    have a3 := carryB k3 (lt_of_block a2') a2'
    have J0 := Lib.hid (I0.out.below k13)
    have J1 := Lib.hid (I1.out.below k13)
    have J2 := Lib.hid (I2.out.below k13)
    clear k1 k2 k3 K2 k13 s2 a2' I0 I1 I2 CI
    have l3 := lt_of_block a3
    have c3 := cell_of_block a3
    have hbx : (tx == tx) = true := by simp
    go_wp2_with fail
    refine (CS.out w3 J0.out J1.out J2.out).mono ?_
    rintro e w4 ⟨rfl, k⟩
    have K4 := below_next K3 k
    have a4 := carryB k l3 a3
    replace J0 := Lib.hid (J0.out.below k)
    replace J1 := Lib.hid (J1.out.below k)
    replace J2 := Lib.hid (J2.out.below k)
    clear k K3 a3 l3 c3
    have l4 := lt_of_block a4
    have c4 := cell_of_block a4
    cases b
    · have ht := HQ.out rfl
      subst ht
      go_wp2_with fail
      refine (CO.out w4 J0.out J1.out J2.out).mono ?_
      rintro e w5 ⟨rfl, k⟩
      have K5 := below_next K4 k
      have a5 := carryB k l4 a4
      replace J0 := Lib.hid (J0.out.below k)
      replace J1 := Lib.hid (J1.out.below k)
      replace J2 := Lib.hid (J2.out.below k)
      clear k K4 a4 l4 c4
      have l5 := lt_of_block a5
      have c5 := cell_of_block a5
      go_wp2_with fail
      refine (CS.out w5 J0.out J1.out J2.out).mono ?_
      rintro e w6 ⟨rfl, k⟩
      have K6 := below_next K5 k
      have a6 := carryB k l5 a5
      replace J0 := Lib.hid (J0.out.below k)
      replace J1 := Lib.hid (J1.out.below k)
      replace J2 := Lib.hid (J2.out.below k)
      clear k K5 a5 l5 c5
      have l6 := lt_of_block a6
      have c6 := cell_of_block a6
      go_wp2_with fail
      refine (CO.out w6 J0.out J1.out J2.out).mono ?_
      rintro e w7 ⟨rfl, k⟩
      have K7 := below_next K6 k
      have a7 := carryB k l6 a6
      replace J0 := Lib.hid (J0.out.below k)
      replace J1 := Lib.hid (J1.out.below k)
      replace J2 := Lib.hid (J2.out.below k)
      clear k K6 a6 l6 c6
      have l7 := lt_of_block a7
      have c7 := cell_of_block a7
      go_wp2_with fail
      go_ret
      exact ⟨by first | rfl | simp, K7⟩
    · have hb1 : (tx == []) = false := by simpa using HR.out rfl
      have HG := Lib.hid (HP.out rfl)
      go_wp2_with fail
      refine (CO.out w4 J0.out J1.out J2.out).mono ?_
      rintro e w5 ⟨rfl, k⟩
      have K5 := below_next K4 k
      have a5 := carryB k l4 a4
      replace J0 := Lib.hid (J0.out.below k)
      replace J1 := Lib.hid (J1.out.below k)
      replace J2 := Lib.hid (J2.out.below k)
      clear k K4 a4 l4 c4
      have l5 := lt_of_block a5
      have c5 := cell_of_block a5
      go_wp2_with fail
      refine (GameGet_c ⟨tx.toArray⟩ w5 (by rw [bytes_len]; omega) (EE.out.below K5)).mono ?_
      rintro e w6 ⟨z', b', p0, p1, p2, hg', rfl, x0, x1, x2, -, -, -, k⟩
      obtain ⟨rfl, rfl⟩ := HG.out.uniq hg'
      have K6 := below_next K5 k
      have a6 := carryB k l5 a5
      replace J0 := Lib.hid (J0.out.below k)
      replace J1 := Lib.hid (J1.out.below k)
      replace J2 := Lib.hid (J2.out.below k)
      have X0 := x0.sl five_len
      have X1 := x1.sl int_len
      have X2 := x2.sl int_len
      rw [← M.out.1] at X0 ⊢
      rw [← M.out.2.1] at X1 ⊢
      rw [← M.out.2.2] at X2 ⊢
      replace X0 := Lib.hid X0
      replace X1 := Lib.hid X1
      replace X2 := Lib.hid X2
      clear k K5 hg' x0 x1 x2 a5 l5 c5
      have c6 := cell_of_block a6
      have l6 := lt_of_block a6
      go_wp2_with fail
      obtain ⟨w7, hw7, s7, b7, k7⟩ := blocks1 w6 (.cells #[.slice p0 m0 m0, .slice p1 m1 m1, .slice p2 m2 m2] 41)
      rw [← hw7]
      clear hw7
      have K7 := below_next K6 k7
      refine (wpGame_c z p0 p1 p2 a0 a1 a2 m0 m1 m2 m0 m1 m2 c0 c1 c2 w7 (X0.out.below k7) (X1.out.below k7) (X2.out.below k7) (J0.out.below k7) (J1.out.below k7) (J2.out.below k7)).mono ?_
      rintro e w8 ⟨rfl, k8⟩
      go_wp2_with fail
      go_ret
      exact ⟨rfl, below_next K7 k8⟩
end Go.Proofs.YtilldpoleiippaaDoor.fnGamePut

/-! FnGamePut: the law returns true for every input; condition: the package variables as the row lists them, which the card ties to the program's text. -/
namespace Go.Proofs.YtilldpoleiippaaDoor.fnGamePut
open Go.ChangeShapes hiding open_int
open Go.WideShapes Go.ChangeAt Go.RowKit
open Go.ChangeMaps (shut_string)
set_option linter.unusedVariables false

theorem own : ownKnob Tryd.prog.godebug = none := by kernel_rfl
theorem laidOut : laidOutB Tryd.prog = true := by kernel_rfl

set_option maxRecDepth 100000 in
theorem lifted (os : Os) (started : os.Started) (H : Type) (enc : TypeId × Value → H) :
    ReturnsInHanded {} Tryd.checked os 11 .any (fun w args => (Rows.fnGamePutSpec.pre enc Tryd.prog Tryd.f11 [] false w args ∧ laidMetH Tryd.prog Rows.fnGamePutRow.laid w) ∧ sizedMet enc Tryd.prog Tryd.f11 (OpenSpec.ofChange Rows.fnGamePutSpec) false w args)
      (Rows.fnGamePutSpec.post enc Tryd.prog Tryd.f11 false true false false) := by
  refine returnsInHanded_shaped (C := Tryd.checked) (X := fun w _ => laidMetH Tryd.prog Rows.fnGamePutRow.laid w) (fun _ _ _ hh h => h.of_heap hh) own started (by kernel_rfl) Tryd.func11
    (ChangeSpec.witness_shaped (enc := enc) (C := Tryd.checked) (os := os) (X := fun w _ => laidMetH Tryd.prog Rows.fnGamePutRow.laid w) false (World.laidAll Tryd.prog os Rows.fnGamePutRow.laid) #[.slice none 0 0] 8 (World.laidAll_os _ _ _) (World.shaped_of_ZipB (by kernel_rfl) (by kernel_rfl)) (by kernel_rfl) (by kernel_rfl) (by kernel_rfl)
      (by rw [MakeChecks.laidMetH_plain _ _ _ (by kernel_rfl)]; exact laidMet_laidAll _ (by kernel_rfl) (by kernel_rfl))) ?_
  intro W base args ds gs before hval0 hW hL hsh
  have hval : ∀ (j : Nat) t v, Tryd.f11.params[j]? = some t → args[j]? = some v → Value.okWide Tryd.prog W .any base t v := hval0
  have hW' := hW
  obtain ⟨p, q, hA0, hV0, rfl, hfz, hnd⟩ := hW
  have hA : DataW.TrodAll enc Tryd.prog W 0 (fun _ => true) true Tryd.f11.params.toList args.toList ds p := hA0
  rw [Tryd.params11] at hA hval
  obtain ⟨v0, vs0, d0, ds0, p0, q0, hargs, rfl, rfl, h0, r0⟩ := trodAll_cons hA
  obtain ⟨rfl, rfl, rfl⟩ := trodAll_nil r0
  obtain rfl : args = #[v0] := by cases args; simp_all
  obtain ⟨rfl, rfl⟩ := trodVars_none hV0
  have lt0 : ∀ x ∈ p0, x.block < W.heap.size := by obtain ⟨m, hm⟩ := h0; exact DataW.trod_lt m _ _ _ hm
  obtain ⟨z0, o0⟩ := open_bytes (hval 0 28 v0 rfl rfl) h0
  clear hA0 hval0 hV0
  have hL1 : laidMet Tryd.prog Rows.fnGamePutRow.laid W := by rw [← MakeChecks.laidMetH_plain _ _ _ (by kernel_rfl)]; exact hL

  have POW := pow_of_laid hL1.tail.tail
  have ENVA : EnvA W := ⟨POW, syn_of_laid hL1.tail.tail.tail.tail.tail, ran_of_laid hL1.tail.tail.tail.tail, Tryd.laysM146.s1_3 W hsh⟩
  refine (walk v0 z0 W o0 ENVA).mono fun e W' ⟨he, bel⟩ => ?_
  subst he
  exact ⟨_, rfl, _, _, _, [], _, [], hW', trodAll_mk1 (shut_bool Tryd.underlying4 _), (trodAll_cons_mk (Below.trod laidOut (by kernel_rfl) (of_decide_eq_true (by kernel_rfl)) h0 bel lt0) trodAll_mk0), rfl, bel.frame _, fun h => by cases h⟩

theorem over : Rows.fnGamePutRow.holds Tryd.pinned (OpenSpec.ofChange Rows.fnGamePutSpec) :=
  OpenClaim.holds_of_wide 11 Tryd.f11 rfl rfl rfl rfl rfl rfl rfl ⟨rfl, rfl, rfl, rfl, rfl⟩ rfl rfl rfl rfl rfl (by kernel_rfl) Tryd.func11 (by kernel_rfl)
    (of_decide_eq_true (by kernel_rfl)) (by unfold Func.isWrapper; first | (rw [if_pos (by decide +kernel)]; kernel_rfl) | (rw [if_neg (by decide +kernel)]; exact ⟨rfl, rfl⟩))
    (fun os started H enc _ => lifted os started H enc)

theorem proved : Rows.FnGamePutCardSaid :=
  Claim7.holds_tied_plain_at .later [] _ true _ _ over (fun _ h => by cases h) (by kernel_rfl) (fun _ h => by cases h) fnGamePut_row_tie rfl ⟨rfl, rfl⟩ (by kernel_rfl) rfl
    (fun f fn hf hfn => by
      obtain rfl : f = 11 := Option.some.inj ((show Tryd.prog.funcNamed "loop.example/wapentake/laws.FnGamePut" = some 11 by kernel_rfl).symm.trans hf) |>.symm
      obtain rfl : fn = Tryd.f11 := (Option.some.inj (Tryd.func11.symm.trans hfn)).symm
      exact ⟨by kernel_rfl, fun j t ht => by
        rw [Tryd.params11] at ht
        have hm : t ∈ [28] := by simpa using Array.mem_of_getElem? ht
        have hall : ([28].all fun u => !Tryd.prog.wantsStandIn u) = true := by kernel_rfl
        exact (show Tryd.prog.wantsStandIn t = false by simpa using List.all_eq_true.1 hall t hm)⟩)
    (by kernel_rfl)
end Go.Proofs.YtilldpoleiippaaDoor.fnGamePut
