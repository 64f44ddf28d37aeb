/- The walk of FnExactGameGet: it returns true for every text; condition: the package variables as listed. | FnExactGameGet: the law returns true for every input; condition: the package variables as the row lists them, which the card ties to the program's text. -/
import Derived.Test.YtilldpoleiippaaDoorLI
import Derived.Test.YtilldpoleiippaaDoorLG
import Derived.Test.YtilldpoleiippaaDoorLA
import Derived.Test.YtilldpoleiippaaDoorLD
import Derived.Test.YtilldpoleiippaaDoorTie
import Derived.Test.YtilldpoleiippaaDoorCards
import Derived.ProofKit
import Derived.OpenShut
import Derived.ShutString
import Derived.ChangeOld
import Derived.Below
import Derived.OpenVars
import Derived.LaidMore
import Derived.Lay
import Derived.MakeChecks
import Derived.SevenTiedAt
set_option linter.unusedSimpArgs false
set_option linter.unusedVariables false
/-! The walk of FnExactGameGet: it returns true for every text; condition: the package variables as listed. -/
namespace Go.Proofs.YtilldpoleiippaaDoor.fnExactGameGet
open Go.RowKit Go.Joins

theorem game_small {s : List UInt8} {g : Gm} {b : Bool} (h : IsGame s g b) : g.es.length ≤ 4 ∧ g.fl.length ≤ 16 ∧ g.la.length ≤ 4 := by
  rcases h with ⟨-, h1, -⟩ | ⟨-, h1, -⟩
  · have := game_lens h1
    have := game_ents h1
    omega
  · rw [h1]; simp

set_option maxRecDepth 100000 in
set_option maxHeartbeats 2000000 in
theorem walk (v0 : Value) (s : ByteArray) (w : World) (h0 : v0 = .string s) (EA : EnvA w) :
    Calls Tryd.prog 9 #[v0] w fun e w' => e = .returned (.bool true) ∧ Below w.heap.size w w' := by
  subst h0
  have EE := Lib.hid EA
  clear EA
  by_cases hbig : (1048576 : Int) < s.size
  · go_enter Tryd.func9, Tryd.ntmps9
    go_wp2_with fail
    go_ret
    exact ⟨rfl, Below.refl _ _⟩
  · have hs : s.size ≤ 1048576 := by omega
    go_enter Tryd.func9, Tryd.ntmps9
    go_wp2_with fail
    refine (sGameGet_c s w (by omega)).mono ?_
    rintro e w1 ⟨z, b, a0, a1, a2, c0, c1, c2, hg, rfl, r0, r1, r2, k1⟩
    have HG := Lib.hid hg
    obtain ⟨z0, z1, z2⟩ := game_small hg
    clear hg
    go_wp2_with fail
    obtain ⟨w2, hw2, s2, qB, k2⟩ := blocks1 w1 (.cells #[.slice a0 z.es.length c0, .slice a1 z.fl.length c1, .slice a2 z.la.length c2] 41)
    rw [← hw2]
    clear hw2
    have K2 := below_next k1 k2
    have hw0 := k1.size
    refine (GameGet_c s w2 (by omega) (EE.out.below K2)).mono ?_
    rintro e w3 ⟨z', b', p0, p1, p2, hg', rfl, x0, x1, x2, xef, xel, xfl, k3⟩
    obtain ⟨rfl, rfl⟩ := HG.out.uniq hg'
    have h23 := k3.size
    have K3 := below_next K2 k3
    have k13 := below_next k2 k3
    have QB := Lib.hid (carryB k3 (lt_of_block qB) qB)
    have Q0 := Lib.hid (r0.below k13)
    have Q1 := Lib.hid (r1.below k13)
    have Q2 := Lib.hid (r2.below k13)
    have BQ0 := Lib.hid (fun g (h : rowBlk a0 c0 = some g) => show g < w2.heap.size by have := (r0.blk h).2; omega)
    have BQ1 := Lib.hid (fun g (h : rowBlk a1 c1 = some g) => show g < w2.heap.size by have := (r1.blk h).2; omega)
    have BQ2 := Lib.hid (fun g (h : rowBlk a2 c2 = some g) => show g < w2.heap.size by have := (r2.blk h).2; omega)
    have BP0 := Lib.hid (fun g (h : rowBlk p0 z.es.length = some g) => x0.blk h)
    have BP1 := Lib.hid (fun g (h : rowBlk p1 z.fl.length = some g) => x1.blk h)
    have BP2 := Lib.hid (fun g (h : rowBlk p2 z.la.length = some g) => x2.blk h)
    have hq2 : w1.heap.size < w2.heap.size := lt_of_block qB
    have hb2 : w.heap.size ≤ w2.heap.size := K2.size
    clear hg' k3 k13 qB s2 k1 k2 K2 r0 r1 r2
    have cQ := cell_of_block QB.out
    have lQ := lt_of_block QB.out
    go_wp2_with fail
    obtain ⟨w4, hw4, s4, pB, k4⟩ := blocks1 w3 (.cells #[.slice p0 z.es.length z.es.length, .slice p1 z.fl.length z.fl.length, .slice p2 z.la.length z.la.length] 41)
    rw [← hw4]
    clear hw4 cQ
    have X0 := x0.below k4
    have X1 := x1.below k4
    have X2 := x2.below k4
    have qB4 := carryB k4 lQ QB.out
    have Q04 := Q0.out.below k4
    have Q14 := Q1.out.below k4
    have Q24 := Q2.out.below k4
    have K4 := below_next K3 k4
    have h34 : w3.heap.size < w4.heap.size := lt_of_block pB
    clear k4 s4 x0 x1 x2 lQ K3
    refine (eqGame_c z p0 p1 p2 a0 a1 a2 _ _ _ c0 c1 c2 w4 (X0.sl (fun _ => rfl)) (X1.sl (fun _ => rfl)) (X2.sl (fun _ => rfl)) (Q04.sl (fun _ => rfl)) (Q14.sl (fun _ => rfl)) (Q24.sl (fun _ => rfl))).mono ?_
    rintro e w5 ⟨rfl, k5⟩
    have P0 := Lib.hid (X0.below k5)
    have P1 := Lib.hid (X1.below k5)
    have P2 := Lib.hid (X2.below k5)
    have pB5 := carryB k5 h34 pB
    have qB5 := carryB k5 (by omega) qB4
    have Q05 := Q04.below k5
    have Q15 := Q14.below k5
    have Q25 := Q24.below k5
    have K5 := below_next K4 k5
    have h45 := k5.size
    have cP := cell_of_block pB5
    have lP := lt_of_block pB5
    clear X0 X1 X2 qB4 Q04 Q14 Q24 K4 k5 pB
    go_wp2_with fail
    refine (markGame_r 1 w5 P0.out P1.out P2.out xef xel xfl rfl rfl rfl (by omega) (by omega) (by omega) (by omega) (by omega)).mono ?_
    rintro e w6 ⟨rfl, m0, m1, m2, tP⟩
    have pB6 := carryT tP pB5 (fun hp => by rcases hp with hp | hp | hp <;> first | (have := (BP0.out _ hp).2; omega) | (have := (BP1.out _ hp).2; omega) | (have := (BP2.out _ hp).2; omega))
    have qB6 := carryT tP qB5 (fun hp => by rcases hp with hp | hp | hp <;> first | (have := (BP0.out _ hp).1; omega) | (have := (BP1.out _ hp).1; omega) | (have := (BP2.out _ hp).1; omega))
    have Q06 := Q05.turned tP (fun g hg hp => by have := BQ0.out g hg; rcases hp with hp | hp | hp <;> first | (have := (BP0.out _ hp).1; omega) | (have := (BP1.out _ hp).1; omega) | (have := (BP2.out _ hp).1; omega))
    have Q16 := Q15.turned tP (fun g hg hp => by have := BQ1.out g hg; rcases hp with hp | hp | hp <;> first | (have := (BP0.out _ hp).1; omega) | (have := (BP1.out _ hp).1; omega) | (have := (BP2.out _ hp).1; omega))
    have Q26 := Q25.turned tP (fun g hg hp => by have := BQ2.out g hg; rcases hp with hp | hp | hp <;> first | (have := (BP0.out _ hp).1; omega) | (have := (BP1.out _ hp).1; omega) | (have := (BP2.out _ hp).1; omega))
    have K6 := K5.trans (tP.below K5.size (fun g hp => by rcases hp with hp | hp | hp <;> first | (have := (BP0.out _ hp).1; omega) | (have := (BP1.out _ hp).1; omega) | (have := (BP2.out _ hp).1; omega)))
    have h56 := tP.size
    have M0 := Lib.hid m0
    have M1 := Lib.hid m1
    have M2 := Lib.hid m2
    clear cP lP pB5 qB5 Q05 Q15 Q25 K5 tP m0 m1 m2
    have cP := cell_of_block pB6
    have lP := lt_of_block pB6
    have hpos : ¬ (1 + ((z.es.length * 5 : Nat) : Int) + (z.fl.length : Int) + (z.la.length : Int)) < 0 := by omega
    obtain ⟨tot, htot⟩ : ∃ tot, tot = (1 + ((z.es.length * 5 : Nat) : Int) + (z.fl.length : Int) + (z.la.length : Int)) := ⟨_, rfl⟩
    have HT := Lib.hid htot
    rw [← htot] at hpos ⊢
    clear htot
    go_wp2_with fail
    refine (heldGame_r 1 w6 P0.out P1.out P2.out rfl rfl rfl M0.out M1.out M2.out (by omega) (by omega) (by omega) (by omega) (by omega)).mono ?_
    rintro e w7 ⟨rfl, k7⟩
    rw [← HT.out]
    have K7 := Lib.hid (below_next K6 k7)
    have pB7 := Lib.hid (carryB k7 lP pB6)
    have qB7 := carryB k7 (by omega) qB6
    have Q07 := Q06.below k7
    have Q17 := Q16.below k7
    have Q27 := Q26.below k7
    have M07 := M0.out.below k7
    have M17 := M1.out.below k7
    have M27 := M2.out.below k7
    have h67 := k7.size
    clear cP lP pB6 qB6 Q06 Q16 Q26 K6 k7 M0 M1 M2
    go_wp2_with fail
    refine (GameGet_c s w7 (by omega) (EE.out.below K7.out)).mono ?_
    rintro e w8 ⟨z'', b'', y0, y1, y2, hg'', rfl, n0, n1, n2, -, -, -, k8⟩
    obtain ⟨rfl, rfl⟩ := HG.out.uniq hg''
    have K8 := below_next K7.out k8
    have pB8 := carryB k8 (lt_of_block pB7.out) pB7.out
    have qB8 := carryB k8 (by omega) qB7
    have Q08 := Q07.below k8
    have Q18 := Q17.below k8
    have Q28 := Q27.below k8
    have M08 := M07.below k8
    have M18 := M17.below k8
    have M28 := M27.below k8
    have h78 := k8.size
    have cQ := cell_of_block qB8
    have lQ := lt_of_block qB8
    clear k8 hg'' Q07 Q17 Q27 M07 M17 M27 qB7 pB7 K7
    go_wp2_with fail
    obtain ⟨w9, hw9, s9, nB, k9⟩ := blocks1 w8 (.cells #[.slice y0 z.es.length z.es.length, .slice y1 z.fl.length z.fl.length, .slice y2 z.la.length z.la.length] 41)
    rw [← hw9]
    clear hw9 cQ lQ
    refine (eqGame_c z y0 y1 y2 a0 a1 a2 _ _ _ c0 c1 c2 w9 ((n0.below k9).sl (fun _ => rfl)) ((n1.below k9).sl (fun _ => rfl)) ((n2.below k9).sl (fun _ => rfl)) ((Q08.below k9).sl (fun _ => rfl)) ((Q18.below k9).sl (fun _ => rfl)) ((Q28.below k9).sl (fun _ => rfl))).mono ?_
    rintro e w10 ⟨rfl, k10⟩
    have k810 := below_next k9 k10
    have K10 := below_next K8 k810
    have pB10 := carryB k810 (lt_of_block pB8) pB8
    have M010 := M08.below k810
    have M110 := M18.below k810
    have M210 := M28.below k810
    have cP := cell_of_block pB10
    have lP := lt_of_block pB10
    clear k9 k10 k810 K8 pB8 qB8 M08 M18 M28 Q08 Q18 Q28 n0 n1 n2 s9 nB
    go_wp2_with fail
    refine (heldGame_r 1 w10 P0.out P1.out P2.out rfl rfl rfl M010 M110 M210 (by omega) (by omega) (by omega) (by omega) (by omega)).mono ?_
    rintro e w11 ⟨rfl, k11⟩
    rw [← HT.out]
    go_wp2_with fail
    go_ret
    exact ⟨rfl, below_next K10 k11⟩
end Go.Proofs.YtilldpoleiippaaDoor.fnExactGameGet

/-! FnExactGameGet: the law returns true for every input; condition: the package variables as the row lists them, which the card ties to the program's text. -/
namespace Go.Proofs.YtilldpoleiippaaDoor.fnExactGameGet
open Go.ChangeShapes hiding open_int
open Go.WideShapes Go.ChangeAt Go.RowKit
open Go.ChangeMaps (shut_string)
set_option linter.unusedVariables false

theorem own : ownKnob Tryd.prog.godebug = none := by kernel_rfl
theorem laidOut : laidOutB Tryd.prog = true := by kernel_rfl

set_option maxRecDepth 100000 in
theorem lifted (os : Os) (started : os.Started) (H : Type) (enc : TypeId × Value → H) :
    ReturnsInHanded {} Tryd.checked os 9 .any (fun w args => (Rows.fnExactGameGetSpec.pre enc Tryd.prog Tryd.f9 [] false w args ∧ laidMetH Tryd.prog Rows.fnExactGameGetRow.laid w) ∧ sizedMet enc Tryd.prog Tryd.f9 (OpenSpec.ofChange Rows.fnExactGameGetSpec) false w args)
      (Rows.fnExactGameGetSpec.post enc Tryd.prog Tryd.f9 false true false false) := by
  refine returnsInHanded_shaped (C := Tryd.checked) (X := fun w _ => laidMetH Tryd.prog Rows.fnExactGameGetRow.laid w) (fun _ _ _ hh h => h.of_heap hh) own started (by kernel_rfl) Tryd.func9
    (ChangeSpec.witness_shaped (enc := enc) (C := Tryd.checked) (os := os) (X := fun w _ => laidMetH Tryd.prog Rows.fnExactGameGetRow.laid w) false (World.laidAll Tryd.prog os Rows.fnExactGameGetRow.laid) #[.string ByteArray.empty] 8 (World.laidAll_os _ _ _) (World.shaped_of_ZipB (by kernel_rfl) (by kernel_rfl)) (by kernel_rfl) (by kernel_rfl) (by kernel_rfl)
      (by rw [MakeChecks.laidMetH_plain _ _ _ (by kernel_rfl)]; exact laidMet_laidAll _ (by kernel_rfl) (by kernel_rfl))) ?_
  intro W base args ds gs before hval0 hW hL hsh
  have hval : ∀ (j : Nat) t v, Tryd.f9.params[j]? = some t → args[j]? = some v → Value.okWide Tryd.prog W .any base t v := hval0
  have hW' := hW
  obtain ⟨p, q, hA0, hV0, rfl, hfz, hnd⟩ := hW
  have hA : DataW.TrodAll enc Tryd.prog W 0 (fun _ => true) true Tryd.f9.params.toList args.toList ds p := hA0
  rw [Tryd.params9] at hA hval
  obtain ⟨v0, vs0, d0, ds0, p0, q0, hargs, rfl, rfl, h0, r0⟩ := trodAll_cons hA
  obtain ⟨rfl, rfl, rfl⟩ := trodAll_nil r0
  obtain rfl : args = #[v0] := by cases args; simp_all
  obtain ⟨rfl, rfl⟩ := trodVars_none hV0
  have lt0 : ∀ x ∈ p0, x.block < W.heap.size := by obtain ⟨m, hm⟩ := h0; exact DataW.trod_lt m _ _ _ hm
  obtain ⟨z0, o0⟩ := open_string (hval 0 9 v0 rfl rfl) h0
  clear hA0 hval0 hV0
  have hL1 : laidMet Tryd.prog Rows.fnExactGameGetRow.laid W := by rw [← MakeChecks.laidMetH_plain _ _ _ (by kernel_rfl)]; exact hL

  have POW := pow_of_laid hL1.tail.tail
  have ENVA : EnvA W := ⟨POW, syn_of_laid hL1.tail.tail.tail.tail.tail, ran_of_laid hL1.tail.tail.tail.tail, Tryd.laysM146.s1_3 W hsh⟩
  refine (walk v0 z0 W o0 ENVA).mono fun e W' ⟨he, bel⟩ => ?_
  subst he
  exact ⟨_, rfl, _, _, _, [], _, [], hW', trodAll_mk1 (shut_bool Tryd.underlying4 _), (trodAll_cons_mk (Below.trod laidOut (by kernel_rfl) (of_decide_eq_true (by kernel_rfl)) h0 bel lt0) trodAll_mk0), rfl, bel.frame _, fun h => by cases h⟩

theorem over : Rows.fnExactGameGetRow.holds Tryd.pinned (OpenSpec.ofChange Rows.fnExactGameGetSpec) :=
  OpenClaim.holds_of_wide 9 Tryd.f9 rfl rfl rfl rfl rfl rfl rfl ⟨rfl, rfl, rfl, rfl, rfl⟩ rfl rfl rfl rfl rfl (by kernel_rfl) Tryd.func9 (by kernel_rfl)
    (of_decide_eq_true (by kernel_rfl)) (by unfold Func.isWrapper; first | (rw [if_pos (by decide +kernel)]; kernel_rfl) | (rw [if_neg (by decide +kernel)]; exact ⟨rfl, rfl⟩))
    (fun os started H enc _ => lifted os started H enc)

theorem proved : Rows.FnExactGameGetCardSaid :=
  Claim7.holds_tied_plain_at .later [] _ true _ _ over (fun _ h => by cases h) (by kernel_rfl) (fun _ h => by cases h) fnExactGameGet_row_tie rfl ⟨rfl, rfl⟩ (by kernel_rfl) rfl
    (fun f fn hf hfn => by
      obtain rfl : f = 9 := Option.some.inj ((show Tryd.prog.funcNamed "loop.example/wapentake/laws.FnExactGameGet" = some 9 by kernel_rfl).symm.trans hf) |>.symm
      obtain rfl : fn = Tryd.f9 := (Option.some.inj (Tryd.func9.symm.trans hfn)).symm
      exact ⟨by kernel_rfl, fun j t ht => by
        rw [Tryd.params9] at ht
        have hm : t ∈ [9] := by simpa using Array.mem_of_getElem? ht
        have hall : ([9].all fun u => !Tryd.prog.wantsStandIn u) = true := by kernel_rfl
        exact (show Tryd.prog.wantsStandIn t = false by simpa using List.all_eq_true.1 hall t hm)⟩)
    (by kernel_rfl)
end Go.Proofs.YtilldpoleiippaaDoor.fnExactGameGet
