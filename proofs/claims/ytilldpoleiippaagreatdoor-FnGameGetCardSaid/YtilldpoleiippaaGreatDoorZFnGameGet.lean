/- The walk of FnGameGet: it returns true for every code; condition: the package variables as listed. | FnGameGet: the law returns true for every input; condition: the package variables as the row lists them, which the card ties to the program's text. -/
import Derived.Test.YtilldpoleiippaaGreatDoorGetGI
import Derived.Test.YtilldpoleiippaaGreatDoorDrawGameG
import Derived.Test.YtilldpoleiippaaGreatDoorPutGI
import Derived.Test.YtilldpoleiippaaGreatDoorWpGame
import Derived.Test.YtilldpoleiippaaGreatDoorMA
import Derived.Test.YtilldpoleiippaaGreatDoorMD
import Derived.Test.YtilldpoleiippaaGreatDoorTie
import Derived.Test.YtilldpoleiippaaGreatDoorCards
import Derived.ProofKit
import Derived.OpenShut
import Derived.ShutString
import Derived.ChangeOld
import Derived.Below
import Derived.OpenVars
import Derived.LaidMore
import Derived.Lay
import Derived.MakeChecks
import Derived.SevenTiedAt
set_option linter.unusedSimpArgs false
set_option linter.unusedVariables false
/-! The walk of FnGameGet: it returns true for every code; condition: the package variables as listed. -/
namespace Go.Proofs.YtilldpoleiippaaGreatDoor.fnGameGet
open Go.RowKit Go.Joins

theorem game_small {s : List UInt8} {g : Gm} {b : Bool} (h : IsGame s g b) : g.es.length ≤ 4 ∧ g.fl.length ≤ 16 ∧ g.la.length ≤ 4 := by
  rcases h with ⟨-, h1, -⟩ | ⟨-, h1, -⟩
  · have := game_lens h1
    have := game_ents h1
    omega
  · rw [h1]; simp

set_option maxRecDepth 100000 in
set_option maxHeartbeats 1000000 in
theorem walk (v : Value) (z : Bts) (w : World) (hz : IsBytes w v z) (EA : EnvA w) :
    Calls Tryz.prog 3 #[v] w fun e w' => e = .returned (.bool true) ∧ Below w.heap.size w w' := by
  obtain ⟨a, n, cap⟩ := z
  have HZ := Lib.hid hz
  obtain ⟨hv, hlc, hm, -⟩ := hz
  simp only at hv hlc hm
  subst hv
  have EE := Lib.hid EA
  clear EA
  by_cases hbig : (1048576 : Int) < n
  · go_enter Tryz.func3, Tryz.ntmps3
    go_wp2_with fail
    go_ret
    exact ⟨rfl, Below.refl _ _⟩
  · go_enter Tryz.func3, Tryz.ntmps3
    go_wp2_with fail
    refine (DrawGameGet_c _ _ w HZ.out).mono ?_
    rintro e w1 ⟨s, hs, rfl, k1⟩
    go_wp2_with fail
    refine (GameGet_c s w1 (by omega) (EE.out.below k1)).mono ?_
    rintro e w2 ⟨z, b, p0, p1, p2, hg, rfl, x0, x1, x2, -, -, -, k2⟩
    have HG := Lib.hid hg
    obtain ⟨z0, z1, z2⟩ := game_small hg
    have K2 := below_next k1 k2
    obtain ⟨m0, hm0⟩ : ∃ m, m = z.es.length := ⟨_, rfl⟩
    obtain ⟨m1, hm1⟩ : ∃ m, m = z.fl.length := ⟨_, rfl⟩
    obtain ⟨m2, hm2⟩ : ∃ m, m = z.la.length := ⟨_, rfl⟩
    have M := Lib.hid (And.intro hm0 (And.intro hm1 hm2))
    have X0 := x0.sl five_len
    have X1 := x1.sl int_len
    have X2 := x2.sl int_len
    have CP := Lib.hid (fun V T h0 h1 h2 => GamePut_c z p0 p1 p2 z.es.length z.fl.length z.la.length V T h0 h1 h2 (by omega))
    have CO := Lib.hid (fun V h0 h1 h2 => GameOk_c z p0 p1 p2 z.es.length z.fl.length z.la.length V h0 h1 h2 (by omega))
    rw [← hm0] at X0 CP CO ⊢
    rw [← hm1] at X1 CP CO ⊢
    rw [← hm2] at X2 CP CO ⊢
    replace X0 := Lib.hid X0
    replace X1 := Lib.hid X1
    replace X2 := Lib.hid X2
    clear k1 k2 hg hm0 hm1 hm2 x0 x1 x2
    go_wp2_with fail
    obtain ⟨w3, hw3, s3, a3, k3⟩ := blocks1 w2 (.cells #[.slice p0 m0 m0, .slice p1 m1 m1, .slice p2 m2 m2] 27)
    rw [← hw3]
    clear hw3
    refine (sGameGet_c s w3 (by omega)).mono ?_
    rintro e w4 ⟨z', b', a0, a1, a2, c0, c1, c2, hg', rfl, y0, y1, y2, k4⟩
    obtain ⟨rfl, rfl⟩ := HG.out.uniq hg'
    have K4 := below_next (below_next K2 k3) k4
    have a4 := carryB k4 (lt_of_block a3) a3
    have k34 := below_next k3 k4
    have Y0 := y0.sl five_len
    have Y1 := y1.sl int_len
    have Y2 := y2.sl int_len
    rw [← M.out.1] at Y0 ⊢
    rw [← M.out.2.1] at Y1 ⊢
    rw [← M.out.2.2] at Y2 ⊢
    replace Y0 := Lib.hid Y0
    replace Y1 := Lib.hid Y1
    replace Y2 := Lib.hid Y2
    replace X0 := Lib.hid (X0.out.below k34)
    replace X1 := Lib.hid (X1.out.below k34)
    replace X2 := Lib.hid (X2.out.below k34)
    clear k3 k4 k34 K2 hg' y0 y1 y2 a3 s3
    have c4 := cell_of_block a4
    have l4 := lt_of_block a4
    go_wp2_with fail
    obtain ⟨w5, hw5, s5, b5, k5⟩ := blocks1 w4 (.cells #[.slice a0 m0 c0, .slice a1 m1 c1, .slice a2 m2 c2] 27)
    rw [← hw5]
    clear hw5
    have CW := Lib.hid (fun V h0 h1 h2 h3 h4 h5 => wpGame_c z p0 p1 p2 a0 a1 a2 m0 m1 m2 m0 m1 m2 c0 c1 c2 V h0 h1 h2 h3 h4 h5)
    replace X0 := Lib.hid (X0.out.below k5)
    replace X1 := Lib.hid (X1.out.below k5)
    replace X2 := Lib.hid (X2.out.below k5)
    replace Y0 := Lib.hid (Y0.out.below k5)
    replace Y1 := Lib.hid (Y1.out.below k5)
    replace Y2 := Lib.hid (Y2.out.below k5)
    have K5 := below_next K4 k5
    have a5 := carryB k5 l4 a4
    clear K4 k5 a4 c4 l4 s5
    refine (CW.out w5 X0.out X1.out X2.out Y0.out Y1.out Y2.out).mono ?_
    rintro e w6 ⟨rfl, k6⟩
    replace X0 := Lib.hid (X0.out.below k6)
    replace X1 := Lib.hid (X1.out.below k6)
    replace X2 := Lib.hid (X2.out.below k6)
    replace Y0 := Lib.hid (Y0.out.below k6)
    replace Y1 := Lib.hid (Y1.out.below k6)
    replace Y2 := Lib.hid (Y2.out.below k6)
    have K6 := below_next K5 k6
    have a6 := carryB k6 (lt_of_block a5) a5
    have b6 := carryB k6 (lt_of_block b5) b5
    clear K5 k6 a5 b5
    have c6 := cell_of_block a6
    have l6 := lt_of_block a6
    have d6 := cell_of_block b6
    have m6 := lt_of_block b6
    cases b
    · go_wp2_with fail
      refine (CW.out w6 X0.out X1.out X2.out Y0.out Y1.out Y2.out).mono ?_
      rintro e w7 ⟨rfl, k7⟩
      go_wp2_with fail
      go_ret
      exact ⟨rfl, below_next K6 k7⟩
    · obtain ⟨hgb, ht⟩ : gameB z = true ∧ gamePut z = s.data.toList := by
        rcases HG.out with ⟨-, h1, h2⟩ | ⟨h, -⟩
        · exact ⟨h1, by unfold gamePut; rw [if_pos h1]; exact h2⟩
        · cases h
      have hbp : (gamePut z == s.toList) = true := by rw [ByteArray.toList_eq, ht]; simp
      rw [hgb] at CO
      generalize gamePut z = tx at CP hbp
      clear ht
      go_wp2_with fail
      refine (CP.out w6 (EE.out.below K6).pow X0.out X1.out X2.out).mono ?_
      rintro e w7 ⟨rfl, k7⟩
      replace X0 := Lib.hid (X0.out.below k7)
      replace X1 := Lib.hid (X1.out.below k7)
      replace X2 := Lib.hid (X2.out.below k7)
      have K7 := below_next K6 k7
      have a7 := carryB k7 l6 a6
      clear K6 k7 a6 c6 l6 d6 m6 b6
      have c7 := cell_of_block a7
      have l7 := lt_of_block a7
      go_wp2_with fail
      refine (CO.out w7 X0.out X1.out X2.out).mono ?_
      rintro e w8 ⟨rfl, k8⟩
      go_wp2_with fail
      go_ret
      exact ⟨by first | rfl | exact ret_bool (by rw [hbp]) | exact ret_bool hbp, below_next K7 k8⟩
end Go.Proofs.YtilldpoleiippaaGreatDoor.fnGameGet

/-! FnGameGet: the law returns true for every input; condition: the package variables as the row lists them, which the card ties to the program's text. -/
namespace Go.Proofs.YtilldpoleiippaaGreatDoor.fnGameGet
open Go.ChangeShapes hiding open_int
open Go.WideShapes Go.ChangeAt Go.RowKit
open Go.ChangeMaps (shut_string)
set_option linter.unusedVariables false

theorem own : ownKnob Tryz.prog.godebug = none := by kernel_rfl
theorem laidOut : laidOutB Tryz.prog = true := by kernel_rfl

set_option maxRecDepth 100000 in
theorem lifted (os : Os) (started : os.Started) (H : Type) (enc : TypeId × Value → H) :
    ReturnsInHanded {} Tryz.checked os 3 .any (fun w args => (Rows.fnGameGetSpec.pre enc Tryz.prog Tryz.f3 [] false w args ∧ laidMetH Tryz.prog Rows.fnGameGetRow.laid w) ∧ sizedMet enc Tryz.prog Tryz.f3 (OpenSpec.ofChange Rows.fnGameGetSpec) false w args)
      (Rows.fnGameGetSpec.post enc Tryz.prog Tryz.f3 false true false false) := by
  refine returnsInHanded_shaped (C := Tryz.checked) (X := fun w _ => laidMetH Tryz.prog Rows.fnGameGetRow.laid w) (fun _ _ _ hh h => h.of_heap hh) own started (by kernel_rfl) Tryz.func3
    (ChangeSpec.witness_shaped (enc := enc) (C := Tryz.checked) (os := os) (X := fun w _ => laidMetH Tryz.prog Rows.fnGameGetRow.laid w) false (World.laidAll Tryz.prog os Rows.fnGameGetRow.laid) #[.slice none 0 0] 8 (World.laidAll_os _ _ _) (World.shaped_of_ZipB (by kernel_rfl) (by kernel_rfl)) (by kernel_rfl) (by kernel_rfl) (by kernel_rfl)
      (by rw [MakeChecks.laidMetH_plain _ _ _ (by kernel_rfl)]; exact laidMet_laidAll _ (by kernel_rfl) (by kernel_rfl))) ?_
  intro W base args ds gs before hval0 hW hL hsh
  have hval : ∀ (j : Nat) t v, Tryz.f3.params[j]? = some t → args[j]? = some v → Value.okWide Tryz.prog W .any base t v := hval0
  have hW' := hW
  obtain ⟨p, q, hA0, hV0, rfl, hfz, hnd⟩ := hW
  have hA : DataW.TrodAll enc Tryz.prog W 0 (fun _ => true) true Tryz.f3.params.toList args.toList ds p := hA0
  rw [Tryz.params3] at hA hval
  obtain ⟨v0, vs0, d0, ds0, p0, q0, hargs, rfl, rfl, h0, r0⟩ := trodAll_cons hA
  obtain ⟨rfl, rfl, rfl⟩ := trodAll_nil r0
  obtain rfl : args = #[v0] := by cases args; simp_all
  obtain ⟨rfl, rfl⟩ := trodVars_none hV0
  have lt0 : ∀ x ∈ p0, x.block < W.heap.size := by obtain ⟨m, hm⟩ := h0; exact DataW.trod_lt m _ _ _ hm
  obtain ⟨z0, o0⟩ := open_bytes (hval 0 22 v0 rfl rfl) h0
  clear hA0 hval0 hV0
  have hL1 : laidMet Tryz.prog Rows.fnGameGetRow.laid W := by rw [← MakeChecks.laidMetH_plain _ _ _ (by kernel_rfl)]; exact hL

  have POW := pow_of_laid hL1.tail.tail
  have ENVA : EnvA W := ⟨POW, syn_of_laid hL1.tail.tail.tail.tail.tail, ran_of_laid hL1.tail.tail.tail.tail, Tryz.laysM146.s1_3 W hsh⟩
  refine (walk v0 z0 W o0 ENVA).mono fun e W' ⟨he, bel⟩ => ?_
  subst he
  exact ⟨_, rfl, _, _, _, [], _, [], hW', trodAll_mk1 (shut_bool Tryz.underlying4 _), (trodAll_cons_mk (Below.trod laidOut (by kernel_rfl) (of_decide_eq_true (by kernel_rfl)) h0 bel lt0) trodAll_mk0), rfl, bel.frame _, fun h => by cases h⟩

theorem over : Rows.fnGameGetRow.holds Tryz.pinned (OpenSpec.ofChange Rows.fnGameGetSpec) :=
  OpenClaim.holds_of_wide 3 Tryz.f3 rfl rfl rfl rfl rfl rfl rfl ⟨rfl, rfl, rfl, rfl, rfl⟩ rfl rfl rfl rfl rfl (by kernel_rfl) Tryz.func3 (by kernel_rfl)
    (of_decide_eq_true (by kernel_rfl)) (by unfold Func.isWrapper; first | (rw [if_pos (by decide +kernel)]; kernel_rfl) | (rw [if_neg (by decide +kernel)]; exact ⟨rfl, rfl⟩))
    (fun os started H enc _ => lifted os started H enc)

theorem proved : Rows.FnGameGetCardSaid :=
  Claim7.holds_tied_plain_at .later [] _ true _ _ over (fun _ h => by cases h) (by kernel_rfl) (fun _ h => by cases h) fnGameGet_row_tie rfl ⟨rfl, rfl⟩ (by kernel_rfl) rfl
    (fun f fn hf hfn => by
      obtain rfl : f = 3 := Option.some.inj ((show Tryz.prog.funcNamed "loop.example/wapentake/laws.FnGameGet" = some 3 by kernel_rfl).symm.trans hf) |>.symm
      obtain rfl : fn = Tryz.f3 := (Option.some.inj (Tryz.func3.symm.trans hfn)).symm
      exact ⟨by kernel_rfl, fun j t ht => by
        rw [Tryz.params3] at ht
        have hm : t ∈ [22] := by simpa using Array.mem_of_getElem? ht
        have hall : ([22].all fun u => !Tryz.prog.wantsStandIn u) = true := by kernel_rfl
        exact (show Tryz.prog.wantsStandIn t = false by simpa using List.all_eq_true.1 hall t hm)⟩)
    (by kernel_rfl)
end Go.Proofs.YtilldpoleiippaaGreatDoor.fnGameGet
