/- The walk of FnReqPut: it returns true for every code; condition: the package variables as listed. | FnReqPut: the law returns true for every input; condition: the package variables as the row lists them, which the card ties to the program's text. -/
import Derived.Test.YtilldpoleiippaaDoorLD
import Derived.Test.YtilldpoleiippaaDoorLE
import Derived.Test.YtilldpoleiippaaDoorLB
import Derived.Test.YtilldpoleiippaaDoorLA
import Derived.Test.YtilldpoleiippaaDoorTie
import Derived.Test.YtilldpoleiippaaDoorCards
import Derived.ProofKit
import Derived.OpenShut
import Derived.ShutString
import Derived.ChangeOld
import Derived.Below
import Derived.OpenVars
import Derived.LaidMore
import Derived.Lay
import Derived.MakeChecks
import Derived.SevenTiedAt
set_option linter.unusedSimpArgs false
set_option linter.unusedVariables false
/-! The walk of FnReqPut: it returns true for every code; condition: the package variables as listed. -/
namespace Go.Proofs.YtilldpoleiippaaDoor.fnReqPut
open Go.RowKit Go.Joins
attribute [local go_sem ↓] eql_rq neq_rq

theorem put_cases (r : Rq) : (okB r.c r.n r.o r.x r.y = true ∧ reqPutL r ≠ [] ∧ reqPutL r ≠ noneT ∧ IsGet (reqPutL r) r true) ∨ (okB r.c r.n r.o r.x r.y = false ∧ reqPutL r = noneT ∧ IsGet (reqPutL r) r true) ∨ (okB r.c r.n r.o r.x r.y = false ∧ reqPutL r = []) := by
  by_cases hg : good r = true
  · rcases good_cases hg with ⟨rfl, e⟩ | ⟨h1, e, -⟩
    · exact .inr (.inl ⟨rfl, e, IsGet.put hg⟩)
    · refine .inl ⟨h1, ?_, by rw [e]; exact none_ne_put r, IsGet.put hg⟩
      rw [e, putL_glue]
      intro h
      have : (32 : UInt8) ∈ glue 32 (Lib.itoa r.c) (restOf r) := by simp [glue, restOf]
      rw [h] at this
      cases this
  · have hg' : good r = false := by simpa using hg
    unfold good goodB at hg'
    simp only [Bool.or_eq_false_iff] at hg'
    refine .inr (.inr ⟨hg'.2, ?_⟩)
    unfold reqPutL noneB
    rw [hg'.1, hg'.2]
    rfl

set_option maxRecDepth 100000 in
set_option maxHeartbeats 8000000 in
theorem walk (v : Value) (z : Bts) (w : World) (hz : IsBytes w v z) (E : Env w) (EA : EnvA w) :
    Calls Tryd.prog 7 #[v] w fun e w' => e = .returned (.bool true) ∧ Below w.heap.size w w' := by
  obtain ⟨a, n, cap⟩ := z
  have HZ := Lib.hid hz
  obtain ⟨hv, hlc, hm, -⟩ := hz
  simp only at hv hlc hm
  subst hv
  have EW := Lib.hid E
  have EE := Lib.hid EA
  clear E EA
  by_cases hbig : (1048576 : Int) < n
  · go_enter Tryd.func7, Tryd.ntmps7
    go_wp2_with fail
    go_ret
    exact ⟨rfl, Below.refl _ _⟩
  · go_enter Tryd.func7, Tryd.ntmps7
    go_wp2_with fail
    refine (DrawReqPut_c _ _ w HZ.out).mono ?_
    rintro e w1 ⟨⟨r, rfl⟩, k1⟩
    go_wp2_with fail
    obtain ⟨w2, hw2, s2, a2, k2⟩ := blocks1 w1 (.cells #[.int .i64 r.c, .int .i64 r.n, .int .i64 r.o, .int .i64 r.x, .int .i64 r.y] 46)
    rw [← hw2]
    clear hw2
    have K2 := below_next k1 k2
    have CP := Lib.hid (fun V E => ReqPut_c r.c r.n r.o r.x r.y V E)
    have CS := Lib.hid (fun V => sReqPut_c r.c r.n r.o r.x r.y V)
    have ez : (⟨r.c, r.n, r.o, r.x, r.y⟩ : Rq) = r := rfl
    rw [ez] at CP CS
    clear ez
    refine (CP.out w2 (EW.out.below K2)).mono ?_
    rintro e w3 ⟨rfl, k3⟩
    have K3 := below_next K2 k3
    have a3 := carryB k3 (lt_of_block a2) a2
    clear k1 k2 k3 K2 s2 a2 CP
    have l3 := lt_of_block a3
    have hpc := put_cases r
    have hlen := putLen r
    have CO := Lib.hid (fun V => ReqOk_c r.c r.n r.o r.x r.y V)
    have CQ := Lib.hid (fun V => sReqOk_c r.c r.n r.o r.x r.y V)
    have HE := Lib.hid (eqR_refl r.c r.n r.o r.x r.y)
    generalize reqPutL r = tx at *
    generalize hok : okB r.c r.n r.o r.x r.y = ok at *
    clear hok
    have e0 := fun d os => cell_re a3 d os 0
    have e1 := fun d os => cell_re a3 d os 1
    have e2 := fun d os => cell_re a3 d os 2
    have e3 := fun d os => cell_re a3 d os 3
    have e4 := fun d os => cell_re a3 d os 4
    have hbx : (tx == tx) = true := by simp
    have cA := quiet_c (w := w3) (fun V _ => CS.out V)
    have cB := quiet_c (w := w3) (fun V _ => CO.out V)
    have cC := quiet_c (w := w3) (fun V _ => CQ.out V)
    rcases hpc with ⟨rfl, h1, h2, hg⟩ | ⟨rfl, h2, hg⟩ | ⟨rfl, h2⟩
    · have hb1 : (tx == []) = false := by simpa using h1
      have hb2 : (tx == [110, 111, 110, 101]) = false := by simpa [noneT] using h2
      have HG := Lib.hid hg
      clear h1 h2 hg
      go_wp2_with fail
      refine wp_region_quiet_below (by kernel_rfl) (by kernel_rfl) ?_
      repeat (go_big_quiet_step (first | with_reducible exact cA _ _ | with_reducible exact cB _ _ | with_reducible exact cC _ _))
      refine wpQuiet_nil ?_
      intro _ hw'
      obtain ⟨⟨dq, osq⟩, hw''⟩ := hw'
      subst hw''
      have KQ := below_next K3 (below_regrown w3 dq osq)
      have a4 := carryB (below_regrown w3 dq osq) l3 a3
      generalize Sort.grow (redrawn w3 dq) osq = w4 at *
      clear e0 e1 e2 e3 e4 cA cB cC a3 l3 K3
      have c4 := cell_of_block a4
      have l4 := lt_of_block a4
      go_wp2_with fail
      refine (ReqGet_c ⟨tx.toArray⟩ r true w4 (by rw [bytes_len]; omega) (EW.out.below KQ) (EE.out.below KQ) (by simpa using HG.out)).mono ?_
      rintro e w5 ⟨rfl, k5⟩
      have K5 := below_next KQ k5
      have a5 := carryB k5 l4 a4
      clear c4 l4 a4 k5 KQ
      have c5 := cell_of_block a5
      have l5 := lt_of_block a5
      have he := HE.out
      go_wp2_with fail
      refine (CO.out _).mono ?_
      rintro e w6 ⟨rfl, k6⟩
      go_wp2_with fail
      go_ret
      exact ⟨by first | rfl | simp, below_next (K5.alloc K5.size _) k6⟩
    · have hb1 : (tx == []) = false := by rw [h2]; rfl
      have hb2 : (tx == [110, 111, 110, 101]) = true := by rw [h2]; rfl
      have HG := Lib.hid hg
      clear h2 hg
      go_wp2_with fail
      refine wp_region_quiet_below (by kernel_rfl) (by kernel_rfl) ?_
      repeat (go_big_quiet_step (first | with_reducible exact cA _ _ | with_reducible exact cB _ _ | with_reducible exact cC _ _))
      refine wpQuiet_nil ?_
      intro _ hw'
      obtain ⟨⟨dq, osq⟩, hw''⟩ := hw'
      subst hw''
      have KQ := below_next K3 (below_regrown w3 dq osq)
      have a4 := carryB (below_regrown w3 dq osq) l3 a3
      generalize Sort.grow (redrawn w3 dq) osq = w4 at *
      clear e0 e1 e2 e3 e4 cA cB cC a3 l3 K3
      have c4 := cell_of_block a4
      have l4 := lt_of_block a4
      go_wp2_with fail
      refine (ReqGet_c ⟨tx.toArray⟩ r true w4 (by rw [bytes_len]; omega) (EW.out.below KQ) (EE.out.below KQ) (by simpa using HG.out)).mono ?_
      rintro e w5 ⟨rfl, k5⟩
      have K5 := below_next KQ k5
      have a5 := carryB k5 l4 a4
      clear c4 l4 a4 k5 KQ
      have c5 := cell_of_block a5
      have l5 := lt_of_block a5
      have he := HE.out
      go_wp2_with fail
      refine (CO.out _).mono ?_
      rintro e w6 ⟨rfl, k6⟩
      go_wp2_with fail
      go_ret
      exact ⟨by first | rfl | simp, below_next (K5.alloc K5.size _) k6⟩
    · have hb1 : (tx == []) = true := by rw [h2]; rfl
      clear h2
      go_wp2_with fail
      refine wp_region_quiet_below (by kernel_rfl) (by kernel_rfl) ?_
      repeat (go_big_quiet_step (first | with_reducible exact cA _ _ | with_reducible exact cB _ _ | with_reducible exact cC _ _))
      refine wpQuiet_nil ?_
      intro _ hw'
      obtain ⟨⟨dq, osq⟩, hw''⟩ := hw'
      subst hw''
      have KQ := below_next K3 (below_regrown w3 dq osq)
      have a4 := carryB (below_regrown w3 dq osq) l3 a3
      generalize Sort.grow (redrawn w3 dq) osq = w4 at *
      clear e0 e1 e2 e3 e4 cA cB cC a3 l3 K3
      have e0 := fun d os => cell_re a4 d os 0
      have e1 := fun d os => cell_re a4 d os 1
      have e2 := fun d os => cell_re a4 d os 2
      have e3 := fun d os => cell_re a4 d os 3
      have e4 := fun d os => cell_re a4 d os 4
      have cA := quiet_c (w := w4) (fun V _ => CS.out V)
      have cB := quiet_c (w := w4) (fun V _ => CO.out V)
      have cC := quiet_c (w := w4) (fun V _ => CQ.out V)
      go_wp2_with fail
      refine wp_region_quiet_below (by kernel_rfl) (by kernel_rfl) ?_
      repeat (go_big_quiet_step (first | with_reducible exact cA _ _ | with_reducible exact cB _ _ | with_reducible exact cC _ _))
      refine wpQuiet_nil ?_
      intro _ hw'
      obtain ⟨⟨dq, osq⟩, hw''⟩ := hw'
      subst hw''
      have KR := below_next KQ (below_regrown w4 dq osq)
      go_wp2_with fail
      go_ret
      exact ⟨by first | rfl | simp, KR⟩
end Go.Proofs.YtilldpoleiippaaDoor.fnReqPut

/-! FnReqPut: the law returns true for every input; condition: the package variables as the row lists them, which the card ties to the program's text. -/
namespace Go.Proofs.YtilldpoleiippaaDoor.fnReqPut
open Go.ChangeShapes hiding open_int
open Go.WideShapes Go.ChangeAt Go.RowKit
open Go.ChangeMaps (shut_string)
set_option linter.unusedVariables false

theorem own : ownKnob Tryd.prog.godebug = none := by kernel_rfl
theorem laidOut : laidOutB Tryd.prog = true := by kernel_rfl
theorem varsOk : varsRowed Tryd.prog ["loop.example/wapentake/impl.words"] = true := by kernel_rfl

set_option maxRecDepth 100000 in
theorem lifted (os : Os) (started : os.Started) (H : Type) (enc : TypeId × Value → H) :
    ReturnsInHanded {} Tryd.checked os 7 .any (fun w args => (Rows.fnReqPutSpec.pre enc Tryd.prog Tryd.f7 [] false w args ∧ laidMetH Tryd.prog Rows.fnReqPutRow.laid w) ∧ sizedMet enc Tryd.prog Tryd.f7 (OpenSpec.ofChange Rows.fnReqPutSpec) false w args)
      (Rows.fnReqPutSpec.post enc Tryd.prog Tryd.f7 false true false false) := by
  refine returnsInHanded_shaped (C := Tryd.checked) (X := fun w _ => laidMetH Tryd.prog Rows.fnReqPutRow.laid w) (fun _ _ _ hh h => h.of_heap hh) own started (by kernel_rfl) Tryd.func7
    (ChangeSpec.witness_shaped (enc := enc) (C := Tryd.checked) (os := os) (X := fun w _ => laidMetH Tryd.prog Rows.fnReqPutRow.laid w) false (World.laidAll Tryd.prog os Rows.fnReqPutRow.laid) #[.slice none 0 0] 8 (World.laidAll_os _ _ _) (World.shaped_of_ZipB (by kernel_rfl) (by kernel_rfl)) (by kernel_rfl) (by kernel_rfl) (by kernel_rfl)
      (by rw [MakeChecks.laidMetH_plain _ _ _ (by kernel_rfl)]; exact laidMet_laidAll _ (by kernel_rfl) (by kernel_rfl))) ?_
  intro W base args ds gs before hval0 hW hL hsh
  have hval : ∀ (j : Nat) t v, Tryd.f7.params[j]? = some t → args[j]? = some v → Value.okWide Tryd.prog W .any base t v := hval0
  have hW' := hW
  obtain ⟨p, q, hA0, hV0, rfl, hfz, hnd⟩ := hW
  have hA : DataW.TrodAll enc Tryd.prog W 0 (fun _ => true) true Tryd.f7.params.toList args.toList ds p := hA0
  have hV : DataW.TrodVars enc Tryd.prog W (fun _ => true) ["loop.example/wapentake/impl.words"] gs q := hV0
  rw [Tryd.params7] at hA hval
  obtain ⟨v0, vs0, d0, ds0, p0, q0, hargs, rfl, rfl, h0, r0⟩ := trodAll_cons hA
  obtain ⟨rfl, rfl, rfl⟩ := trodAll_nil r0
  obtain rfl : args = #[v0] := by cases args; simp_all
  obtain ⟨gg, gt, gcs, gfuel, gd, gp, rfl, -⟩ := trodVars_one hV
  have lt0 : ∀ x ∈ p0, x.block < W.heap.size := by obtain ⟨m, hm⟩ := h0; exact DataW.trod_lt m _ _ _ hm
  obtain ⟨z0, o0⟩ := open_bytes (hval 0 28 v0 rfl rfl) h0
  clear hA0 hval0 hV0
  have hL1 : laidMet Tryd.prog Rows.fnReqPutRow.laid W := by rw [← MakeChecks.laidMetH_plain _ _ _ (by kernel_rfl)]; exact hL

  have POW := pow_of_laid hL1.tail.tail
  have ENV : Env W := ⟨POW, words_of_laid hL1.tail.tail.tail.tail.tail.tail⟩
  have ENVA : EnvA W := ⟨POW, syn_of_laid hL1.tail.tail.tail.tail.tail, ran_of_laid hL1.tail.tail.tail.tail, Tryd.laysM146.s1_3 W hsh⟩
  refine (walk v0 z0 W o0 ENV ENVA).mono fun e W' ⟨he, bel⟩ => ?_
  subst he
  exact ⟨_, rfl, _, _, _, [], _, _, hW', trodAll_mk1 (shut_bool Tryd.underlying4 _), (trodAll_cons_mk (Below.trod laidOut (by kernel_rfl) (of_decide_eq_true (by kernel_rfl)) h0 bel lt0) trodAll_mk0), Below.trodVars laidOut bel varsOk hV, bel.frame _, fun h => by cases h⟩

theorem over : Rows.fnReqPutRow.holds Tryd.pinned (OpenSpec.ofChange Rows.fnReqPutSpec) :=
  OpenClaim.holds_of_wide 7 Tryd.f7 rfl rfl rfl rfl rfl rfl rfl ⟨rfl, rfl, rfl, rfl, rfl⟩ rfl rfl rfl rfl rfl (by kernel_rfl) Tryd.func7 (by kernel_rfl)
    (of_decide_eq_true (by kernel_rfl)) (by unfold Func.isWrapper; first | (rw [if_pos (by decide +kernel)]; kernel_rfl) | (rw [if_neg (by decide +kernel)]; exact ⟨rfl, rfl⟩))
    (fun os started H enc _ => lifted os started H enc)

theorem proved : Rows.FnReqPutCardSaid :=
  Claim7.holds_tied_plain_at .later [] _ true _ _ over (fun _ h => by cases h) (by kernel_rfl) (fun _ h => by cases h) fnReqPut_row_tie rfl ⟨rfl, rfl⟩ (by kernel_rfl) rfl
    (fun f fn hf hfn => by
      obtain rfl : f = 7 := Option.some.inj ((show Tryd.prog.funcNamed "loop.example/wapentake/laws.FnReqPut" = some 7 by kernel_rfl).symm.trans hf) |>.symm
      obtain rfl : fn = Tryd.f7 := (Option.some.inj (Tryd.func7.symm.trans hfn)).symm
      exact ⟨by kernel_rfl, fun j t ht => by
        rw [Tryd.params7] at ht
        have hm : t ∈ [28] := by simpa using Array.mem_of_getElem? ht
        have hall : ([28].all fun u => !Tryd.prog.wantsStandIn u) = true := by kernel_rfl
        exact (show Tryd.prog.wantsStandIn t = false by simpa using List.all_eq_true.1 hall t hm)⟩)
    (by kernel_rfl)
end Go.Proofs.YtilldpoleiippaaDoor.fnReqPut
