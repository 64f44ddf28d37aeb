/- The walk of FnExactReqGet: it returns true for every text; condition: the package variables as listed. | FnExactReqGet: the law returns true for every input; condition: the package variables as the row lists them, which the card ties to the program's text. -/
import Derived.Test.YtilldpoleiippaaDoorLD
import Derived.Test.YtilldpoleiippaaDoorLA
import Derived.Test.YtilldpoleiippaaDoorTie
import Derived.Test.YtilldpoleiippaaDoorCards
import Derived.ProofKit
import Derived.OpenShut
import Derived.ShutString
import Derived.ChangeOld
import Derived.Below
import Derived.OpenVars
import Derived.LaidMore
import Derived.Lay
import Derived.MakeChecks
import Derived.SevenTiedAt
set_option linter.unusedSimpArgs false
set_option linter.unusedVariables false
/-! The walk of FnExactReqGet: it returns true for every text; condition: the package variables as listed. -/
namespace Go.Proofs.YtilldpoleiippaaDoor.fnExactReqGet
open Go.RowKit Go.Joins

set_option maxRecDepth 100000 in
set_option maxHeartbeats 4000000 in
theorem walk (v0 : Value) (s : ByteArray) (w : World) (h0 : v0 = .string s) (E : Env w) (EA : EnvA w) :
    Calls Tryd.prog 6 #[v0] w fun e w' => e = .returned (.bool true) ∧ Below w.heap.size w w' := by
  subst h0
  obtain ⟨r, b, hg⟩ := isGet_ex s.data.toList
  have HG := Lib.hid hg
  have EW := Lib.hid E
  have EE := Lib.hid EA
  clear hg E EA
  by_cases hbig : (1048576 : Int) < s.size
  · go_enter Tryd.func6, Tryd.ntmps6
    go_wp2_with fail
    go_ret
    exact ⟨rfl, Below.refl _ _⟩
  · have hs : s.size ≤ 4000000000 := by omega
    have hs2 : s.size ≤ 1099511627776 := by omega
    go_enter Tryd.func6, Tryd.ntmps6
    go_wp2_with fail
    refine (sReqGet_c s r b _ hs2 HG.out).mono ?_
    rintro e w1 ⟨rfl, k1⟩
    go_wp2_with fail
    obtain ⟨w2, hw2, s2, a2, k2⟩ := blocks1 w1 (.cells #[.int .i64 r.c, .int .i64 r.n, .int .i64 r.o, .int .i64 r.x, .int .i64 r.y] 46)
    rw [← hw2]
    clear hw2
    have K2 := below_next k1 k2
    refine (ReqGet_c s r b w2 hs (EW.out.below K2) (EE.out.below K2) HG.out).mono ?_
    rintro e w3 ⟨rfl, k3⟩
    have a3 := carryB k3 (lt_of_block a2) a2
    have K3 := below_next K2 k3
    clear k1 k2 K2 s2 a2 k3
    have c3 := cell_of_block a3
    have l3 := lt_of_block a3
    have he : (r.c == r.c && r.n == r.n && r.o == r.o && r.x == r.x && r.y == r.y) = true := by simp
    have HE := Lib.hid (fun V => eqReq_c r.c r.n r.o r.x r.y r.c r.n r.o r.x r.y V)
    rw [he] at HE
    clear he
    cases b
    all_goals
      go_wp2_with fail
      refine (HE.out _).mono ?_
      rintro e w5 ⟨rfl, k5⟩
      go_wp2_with fail
      go_ret
      exact ⟨rfl, below_next (below_next K3 ((Below.refl _ _).alloc (Nat.le_refl _) _)) k5⟩
end Go.Proofs.YtilldpoleiippaaDoor.fnExactReqGet

/-! FnExactReqGet: the law returns true for every input; condition: the package variables as the row lists them, which the card ties to the program's text. -/
namespace Go.Proofs.YtilldpoleiippaaDoor.fnExactReqGet
open Go.ChangeShapes hiding open_int
open Go.WideShapes Go.ChangeAt Go.RowKit
open Go.ChangeMaps (shut_string)
set_option linter.unusedVariables false

theorem own : ownKnob Tryd.prog.godebug = none := by kernel_rfl
theorem laidOut : laidOutB Tryd.prog = true := by kernel_rfl
theorem varsOk : varsRowed Tryd.prog ["loop.example/wapentake/impl.words"] = true := by kernel_rfl

set_option maxRecDepth 100000 in
theorem lifted (os : Os) (started : os.Started) (H : Type) (enc : TypeId × Value → H) :
    ReturnsInHanded {} Tryd.checked os 6 .any (fun w args => (Rows.fnExactReqGetSpec.pre enc Tryd.prog Tryd.f6 [] false w args ∧ laidMetH Tryd.prog Rows.fnExactReqGetRow.laid w) ∧ sizedMet enc Tryd.prog Tryd.f6 (OpenSpec.ofChange Rows.fnExactReqGetSpec) false w args)
      (Rows.fnExactReqGetSpec.post enc Tryd.prog Tryd.f6 false true false false) := by
  refine returnsInHanded_shaped (C := Tryd.checked) (X := fun w _ => laidMetH Tryd.prog Rows.fnExactReqGetRow.laid w) (fun _ _ _ hh h => h.of_heap hh) own started (by kernel_rfl) Tryd.func6
    (ChangeSpec.witness_shaped (enc := enc) (C := Tryd.checked) (os := os) (X := fun w _ => laidMetH Tryd.prog Rows.fnExactReqGetRow.laid w) false (World.laidAll Tryd.prog os Rows.fnExactReqGetRow.laid) #[.string ByteArray.empty] 8 (World.laidAll_os _ _ _) (World.shaped_of_ZipB (by kernel_rfl) (by kernel_rfl)) (by kernel_rfl) (by kernel_rfl) (by kernel_rfl)
      (by rw [MakeChecks.laidMetH_plain _ _ _ (by kernel_rfl)]; exact laidMet_laidAll _ (by kernel_rfl) (by kernel_rfl))) ?_
  intro W base args ds gs before hval0 hW hL hsh
  have hval : ∀ (j : Nat) t v, Tryd.f6.params[j]? = some t → args[j]? = some v → Value.okWide Tryd.prog W .any base t v := hval0
  have hW' := hW
  obtain ⟨p, q, hA0, hV0, rfl, hfz, hnd⟩ := hW
  have hA : DataW.TrodAll enc Tryd.prog W 0 (fun _ => true) true Tryd.f6.params.toList args.toList ds p := hA0
  have hV : DataW.TrodVars enc Tryd.prog W (fun _ => true) ["loop.example/wapentake/impl.words"] gs q := hV0
  rw [Tryd.params6] at hA hval
  obtain ⟨v0, vs0, d0, ds0, p0, q0, hargs, rfl, rfl, h0, r0⟩ := trodAll_cons hA
  obtain ⟨rfl, rfl, rfl⟩ := trodAll_nil r0
  obtain rfl : args = #[v0] := by cases args; simp_all
  obtain ⟨gg, gt, gcs, gfuel, gd, gp, rfl, -⟩ := trodVars_one hV
  have lt0 : ∀ x ∈ p0, x.block < W.heap.size := by obtain ⟨m, hm⟩ := h0; exact DataW.trod_lt m _ _ _ hm
  obtain ⟨z0, o0⟩ := open_string (hval 0 9 v0 rfl rfl) h0
  clear hA0 hval0 hV0
  have hL1 : laidMet Tryd.prog Rows.fnExactReqGetRow.laid W := by rw [← MakeChecks.laidMetH_plain _ _ _ (by kernel_rfl)]; exact hL

  have POW := pow_of_laid hL1.tail.tail
  have ENV : Env W := ⟨POW, words_of_laid hL1.tail.tail.tail.tail.tail.tail⟩
  have ENVA : EnvA W := ⟨POW, syn_of_laid hL1.tail.tail.tail.tail.tail, ran_of_laid hL1.tail.tail.tail.tail, Tryd.laysM146.s1_3 W hsh⟩
  refine (walk v0 z0 W o0 ENV ENVA).mono fun e W' ⟨he, bel⟩ => ?_
  subst he
  exact ⟨_, rfl, _, _, _, [], _, _, hW', trodAll_mk1 (shut_bool Tryd.underlying4 _), (trodAll_cons_mk (Below.trod laidOut (by kernel_rfl) (of_decide_eq_true (by kernel_rfl)) h0 bel lt0) trodAll_mk0), Below.trodVars laidOut bel varsOk hV, bel.frame _, fun h => by cases h⟩

theorem over : Rows.fnExactReqGetRow.holds Tryd.pinned (OpenSpec.ofChange Rows.fnExactReqGetSpec) :=
  OpenClaim.holds_of_wide 6 Tryd.f6 rfl rfl rfl rfl rfl rfl rfl ⟨rfl, rfl, rfl, rfl, rfl⟩ rfl rfl rfl rfl rfl (by kernel_rfl) Tryd.func6 (by kernel_rfl)
    (of_decide_eq_true (by kernel_rfl)) (by unfold Func.isWrapper; first | (rw [if_pos (by decide +kernel)]; kernel_rfl) | (rw [if_neg (by decide +kernel)]; exact ⟨rfl, rfl⟩))
    (fun os started H enc _ => lifted os started H enc)

theorem proved : Rows.FnExactReqGetCardSaid :=
  Claim7.holds_tied_plain_at .later [] _ true _ _ over (fun _ h => by cases h) (by kernel_rfl) (fun _ h => by cases h) fnExactReqGet_row_tie rfl ⟨rfl, rfl⟩ (by kernel_rfl) rfl
    (fun f fn hf hfn => by
      obtain rfl : f = 6 := Option.some.inj ((show Tryd.prog.funcNamed "loop.example/wapentake/laws.FnExactReqGet" = some 6 by kernel_rfl).symm.trans hf) |>.symm
      obtain rfl : fn = Tryd.f6 := (Option.some.inj (Tryd.func6.symm.trans hfn)).symm
      exact ⟨by kernel_rfl, fun j t ht => by
        rw [Tryd.params6] at ht
        have hm : t ∈ [9] := by simpa using Array.mem_of_getElem? ht
        have hall : ([9].all fun u => !Tryd.prog.wantsStandIn u) = true := by kernel_rfl
        exact (show Tryd.prog.wantsStandIn t = false by simpa using List.all_eq_true.1 hall t hm)⟩)
    (by kernel_rfl)
end Go.Proofs.YtilldpoleiippaaDoor.fnExactReqGet
