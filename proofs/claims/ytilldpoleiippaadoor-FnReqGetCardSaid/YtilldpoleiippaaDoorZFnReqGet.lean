/- The walk of FnReqGet: it returns true for every code; condition: the package variables as listed. | FnReqGet: the law returns true for every input; condition: the package variables as the row lists them, which the card ties to the program's text. -/
import Derived.Test.YtilldpoleiippaaDoorLD
import Derived.Test.YtilldpoleiippaaDoorLE
import Derived.Test.YtilldpoleiippaaDoorLA
import Derived.Test.YtilldpoleiippaaDoorLB
import Derived.Test.YtilldpoleiippaaDoorTie
import Derived.Test.YtilldpoleiippaaDoorCards
import Derived.ProofKit
import Derived.OpenShut
import Derived.ShutString
import Derived.ChangeOld
import Derived.Below
import Derived.OpenVars
import Derived.LaidMore
import Derived.Lay
import Derived.MakeChecks
import Derived.SevenTiedAt
set_option linter.unusedSimpArgs false
set_option linter.unusedVariables false
/-! The walk of FnReqGet: it returns true for every code; condition: the package variables as listed. -/
namespace Go.Proofs.YtilldpoleiippaaDoor.fnReqGet
open Go.RowKit Go.Joins
attribute [local go_sem ↓] eql_rq neq_rq

set_option maxRecDepth 100000 in
set_option maxHeartbeats 8000000 in
theorem walk (v : Value) (z : Bts) (w : World) (hz : IsBytes w v z) (E : Env w) (EA : EnvA w) :
    Calls Tryd.prog 8 #[v] w fun e w' => e = .returned (.bool true) ∧ Below w.heap.size w w' := by
  obtain ⟨a, n, cap⟩ := z
  have HZ := Lib.hid hz
  obtain ⟨hv, hlc, hm, -⟩ := hz
  simp only at hv hlc hm
  subst hv
  have EW := Lib.hid E
  have EE := Lib.hid EA
  clear E EA
  by_cases hbig : (1048576 : Int) < n
  · go_enter Tryd.func8, Tryd.ntmps8
    go_wp2_with fail
    go_ret
    exact ⟨rfl, Below.refl _ _⟩
  · go_enter Tryd.func8, Tryd.ntmps8
    go_wp2_with fail
    refine (DrawReqGet_c _ _ w HZ.out).mono ?_
    rintro e w1 ⟨s, hs, rfl, k1⟩
    obtain ⟨r, b, hg⟩ := isGet_ex s.data.toList
    have HG := Lib.hid hg
    clear hg
    have hs1 : s.size ≤ 4000000000 := by omega
    have hs2 : s.size ≤ 1099511627776 := by omega
    go_wp2_with fail
    refine (ReqGet_c s r b w1 hs1 (EW.out.below k1) (EE.out.below k1) HG.out).mono ?_
    rintro e w2 ⟨rfl, k2⟩
    have K2 := below_next k1 k2
    clear k1 k2
    go_wp2_with fail
    obtain ⟨w3, hw3, s3, a3, k3⟩ := blocks1 w2 (.cells #[.int .i64 r.c, .int .i64 r.n, .int .i64 r.o, .int .i64 r.x, .int .i64 r.y] 46)
    rw [← hw3]
    clear hw3
    refine (sReqGet_c s r b w3 hs2 HG.out).mono ?_
    rintro e w4 ⟨rfl, k4⟩
    have a4 := carryB k4 (lt_of_block a3) a3
    have K4 := below_next (below_next K2 k3) k4
    clear k3 K2 a3 s3 k4
    have c4 := cell_of_block a4
    have l4 := lt_of_block a4
    have he := eqR_refl r.c r.n r.o r.x r.y
    cases b
    · go_wp2_with fail
      go_ret
      exact ⟨rfl, K4.alloc K4.size _⟩
    · have hp : reqPutL r = s.data.toList := by
        rcases HG.out with ⟨-, -, h⟩ | ⟨h, -⟩
        · exact h
        · cases h
      have CP := Lib.hid (fun V E => ReqPut_c r.c r.n r.o r.x r.y V E)
      have ez : (⟨r.c, r.n, r.o, r.x, r.y⟩ : Rq) = r := rfl
      rw [ez] at CP
      have hbp : (reqPutL r == s.toList) = true := by rw [ByteArray.toList_eq, hp]; simp
      clear ez hp
      generalize reqPutL r = tx at *
      go_wp2_with fail
      refine (CP.out _ (EW.out.below (K4.alloc K4.size _))).mono ?_
      rintro e w5 ⟨rfl, k5⟩
      go_wp2_with fail
      go_ret
      exact ⟨by first | rfl | exact ret_bool (by rw [hbp]) | exact ret_bool hbp, below_next (K4.alloc K4.size _) k5⟩
end Go.Proofs.YtilldpoleiippaaDoor.fnReqGet

/-! FnReqGet: the law returns true for every input; condition: the package variables as the row lists them, which the card ties to the program's text. -/
namespace Go.Proofs.YtilldpoleiippaaDoor.fnReqGet
open Go.ChangeShapes hiding open_int
open Go.WideShapes Go.ChangeAt Go.RowKit
open Go.ChangeMaps (shut_string)
set_option linter.unusedVariables false

theorem own : ownKnob Tryd.prog.godebug = none := by kernel_rfl
theorem laidOut : laidOutB Tryd.prog = true := by kernel_rfl
theorem varsOk : varsRowed Tryd.prog ["loop.example/wapentake/impl.words"] = true := by kernel_rfl

set_option maxRecDepth 100000 in
theorem lifted (os : Os) (started : os.Started) (H : Type) (enc : TypeId × Value → H) :
    ReturnsInHanded {} Tryd.checked os 8 .any (fun w args => (Rows.fnReqGetSpec.pre enc Tryd.prog Tryd.f8 [] false w args ∧ laidMetH Tryd.prog Rows.fnReqGetRow.laid w) ∧ sizedMet enc Tryd.prog Tryd.f8 (OpenSpec.ofChange Rows.fnReqGetSpec) false w args)
      (Rows.fnReqGetSpec.post enc Tryd.prog Tryd.f8 false true false false) := by
  refine returnsInHanded_shaped (C := Tryd.checked) (X := fun w _ => laidMetH Tryd.prog Rows.fnReqGetRow.laid w) (fun _ _ _ hh h => h.of_heap hh) own started (by kernel_rfl) Tryd.func8
    (ChangeSpec.witness_shaped (enc := enc) (C := Tryd.checked) (os := os) (X := fun w _ => laidMetH Tryd.prog Rows.fnReqGetRow.laid w) false (World.laidAll Tryd.prog os Rows.fnReqGetRow.laid) #[.slice none 0 0] 8 (World.laidAll_os _ _ _) (World.shaped_of_ZipB (by kernel_rfl) (by kernel_rfl)) (by kernel_rfl) (by kernel_rfl) (by kernel_rfl)
      (by rw [MakeChecks.laidMetH_plain _ _ _ (by kernel_rfl)]; exact laidMet_laidAll _ (by kernel_rfl) (by kernel_rfl))) ?_
  intro W base args ds gs before hval0 hW hL hsh
  have hval : ∀ (j : Nat) t v, Tryd.f8.params[j]? = some t → args[j]? = some v → Value.okWide Tryd.prog W .any base t v := hval0
  have hW' := hW
  obtain ⟨p, q, hA0, hV0, rfl, hfz, hnd⟩ := hW
  have hA : DataW.TrodAll enc Tryd.prog W 0 (fun _ => true) true Tryd.f8.params.toList args.toList ds p := hA0
  have hV : DataW.TrodVars enc Tryd.prog W (fun _ => true) ["loop.example/wapentake/impl.words"] gs q := hV0
  rw [Tryd.params8] at hA hval
  obtain ⟨v0, vs0, d0, ds0, p0, q0, hargs, rfl, rfl, h0, r0⟩ := trodAll_cons hA
  obtain ⟨rfl, rfl, rfl⟩ := trodAll_nil r0
  obtain rfl : args = #[v0] := by cases args; simp_all
  obtain ⟨gg, gt, gcs, gfuel, gd, gp, rfl, -⟩ := trodVars_one hV
  have lt0 : ∀ x ∈ p0, x.block < W.heap.size := by obtain ⟨m, hm⟩ := h0; exact DataW.trod_lt m _ _ _ hm
  obtain ⟨z0, o0⟩ := open_bytes (hval 0 28 v0 rfl rfl) h0
  clear hA0 hval0 hV0
  have hL1 : laidMet Tryd.prog Rows.fnReqGetRow.laid W := by rw [← MakeChecks.laidMetH_plain _ _ _ (by kernel_rfl)]; exact hL

  have POW := pow_of_laid hL1.tail.tail
  have ENV : Env W := ⟨POW, words_of_laid hL1.tail.tail.tail.tail.tail.tail⟩
  have ENVA : EnvA W := ⟨POW, syn_of_laid hL1.tail.tail.tail.tail.tail, ran_of_laid hL1.tail.tail.tail.tail, Tryd.laysM146.s1_3 W hsh⟩
  refine (walk v0 z0 W o0 ENV ENVA).mono fun e W' ⟨he, bel⟩ => ?_
  subst he
  exact ⟨_, rfl, _, _, _, [], _, _, hW', trodAll_mk1 (shut_bool Tryd.underlying4 _), (trodAll_cons_mk (Below.trod laidOut (by kernel_rfl) (of_decide_eq_true (by kernel_rfl)) h0 bel lt0) trodAll_mk0), Below.trodVars laidOut bel varsOk hV, bel.frame _, fun h => by cases h⟩

theorem over : Rows.fnReqGetRow.holds Tryd.pinned (OpenSpec.ofChange Rows.fnReqGetSpec) :=
  OpenClaim.holds_of_wide 8 Tryd.f8 rfl rfl rfl rfl rfl rfl rfl ⟨rfl, rfl, rfl, rfl, rfl⟩ rfl rfl rfl rfl rfl (by kernel_rfl) Tryd.func8 (by kernel_rfl)
    (of_decide_eq_true (by kernel_rfl)) (by unfold Func.isWrapper; first | (rw [if_pos (by decide +kernel)]; kernel_rfl) | (rw [if_neg (by decide +kernel)]; exact ⟨rfl, rfl⟩))
    (fun os started H enc _ => lifted os started H enc)

theorem proved : Rows.FnReqGetCardSaid :=
  Claim7.holds_tied_plain_at .later [] _ true _ _ over (fun _ h => by cases h) (by kernel_rfl) (fun _ h => by cases h) fnReqGet_row_tie rfl ⟨rfl, rfl⟩ (by kernel_rfl) rfl
    (fun f fn hf hfn => by
      obtain rfl : f = 8 := Option.some.inj ((show Tryd.prog.funcNamed "loop.example/wapentake/laws.FnReqGet" = some 8 by kernel_rfl).symm.trans hf) |>.symm
      obtain rfl : fn = Tryd.f8 := (Option.some.inj (Tryd.func8.symm.trans hfn)).symm
      exact ⟨by kernel_rfl, fun j t ht => by
        rw [Tryd.params8] at ht
        have hm : t ∈ [28] := by simpa using Array.mem_of_getElem? ht
        have hall : ([28].all fun u => !Tryd.prog.wantsStandIn u) = true := by kernel_rfl
        exact (show Tryd.prog.wantsStandIn t = false by simpa using List.all_eq_true.1 hall t hm)⟩)
    (by kernel_rfl)
end Go.Proofs.YtilldpoleiippaaDoor.fnReqGet
