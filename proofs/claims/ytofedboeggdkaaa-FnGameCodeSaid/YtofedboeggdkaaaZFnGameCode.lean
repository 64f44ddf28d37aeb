/- The walk of FnGameCode: it returns true for every code; no condition. | FnGameCode: the law returns true for every input; no condition. -/
import Derived.Test.YtofedboeggdkaaaKG
import Derived.Test.YtofedboeggdkaaaKE
import Derived.Test.YtofedboeggdkaaaKA
import Derived.ProofKit
import Derived.OpenShut
import Derived.ShutString
import Derived.ChangeOld
import Derived.Below
set_option linter.unusedSimpArgs false
set_option linter.unusedVariables false
/-! The walk of FnGameCode: it returns true for every code; no condition. -/
namespace Go.Proofs.Ytofedboeggdkaaa.fnGameCode
open Go.RowKit Go.Joins

set_option maxRecDepth 100000 in
set_option maxHeartbeats 16000000 in
theorem walk (v0 : Value) (z0 : Bts) (w : World) (h0 : IsBytes w v0 z0) :
    Calls Try.prog 8 #[v0] w fun e w' => e = .returned (.bool true) ∧ Below w.heap.size w w' := by
  obtain ⟨a, n, cap⟩ := z0
  have HZ := Lib.hid h0
  obtain ⟨hv, hlc, hm, -⟩ := h0
  simp only at hv hlc hm
  subst hv
  by_cases hbig : (1048576 : Int) < n
  · go_enter Try.func8, Try.ntmps8
    go_wp2_with fail
    go_ret
    exact ⟨rfl, Below.refl _ _⟩
  · go_enter Try.func8, Try.ntmps8
    go_wp2_with fail
    refine (DrawGameDo_c _ _ w HZ.out).mono ?_
    rintro e w1 ⟨z, r, a0, a1, a2, c0, c1, c2, rfl, l0, l1, l2, s0, s1, s2, k1⟩
    have CI := Lib.hid (fun V (k : Below w1.heap.size w1 V) => show Calls _ _ _ V (RetGF V.heap.size (doR z r).1 (doR z r).2 V) from GameDoF_c z r a0 a1 a2 c0 c1 c2 V (s0.below k) (s1.below k) (s2.below k) (by omega))
    have CS := Lib.hid (fun V (k : Below w1.heap.size w1 V) => sGameDoG_c z r a0 a1 a2 c0 c1 c2 V (s0.below k) (s1.below k) (s2.below k) (by omega))
    have CL := Lib.hid (code_law (z := z) (r := r))
    obtain ⟨p, hp⟩ : ∃ p, p = doR z r := ⟨_, rfl⟩
    rw [← hp] at CI CS CL
    obtain ⟨y, b⟩ := p
    simp only at CI CS CL
    have S0 := Lib.hid s0
    have S1 := Lib.hid s1
    have S2 := Lib.hid s2
    have K1 := Lib.hid k1
    clear hp s0 s1 s2 k1 HZ
    go_wp2_with fail
    obtain ⟨w2, hw2, sw2, gB, qB, k2⟩ := blocks2 w1 (.cells #[.slice a0 z.es.length c0, .slice a1 z.fl.length c1, .slice a2 z.la.length c2] 46) (.cells #[.int .i64 r.c, .int .i64 r.n, .int .i64 r.o, .int .i64 r.x, .int .i64 r.y] 34)
    rw [← hw2]
    clear hw2
    refine (CI.out w2 k2).mono ?_
    rintro e w3 ⟨e0, e1, e2, rfl, o3, k3⟩
    have G3 := Lib.hid (carryN k3 gB)
    have Q3 := Lib.hid (carryN k3 qB)
    have K3 := Lib.hid (below_next K1.out (below_next k2 k3))
    have W3 := Lib.hid (below_next k2 k3)
    clear gB qB k2 k3 sw2
    have cG := cell_of_block G3.out
    have lG := lt_of_block G3.out
    have cA := cell_of_block Q3.out
    have lA := lt_of_block Q3.out
    obtain ⟨P, hP⟩ : ∃ P, P = w1.heap.size := ⟨_, rfl⟩
    rw [← hP] at G3 Q3 cG lG cA lA ⊢
    clear hP
    go_wp2_with fail
    obtain ⟨w4, hw4, sw4, xB, k4⟩ := blocks1 w3 (.cells #[.slice e0 y.es.length y.es.length, .slice e1 y.fl.length y.fl.length, .slice e2 y.la.length y.la.length] 46)
    rw [← hw4]
    clear hw4 sw4
    obtain ⟨X, hX⟩ : ∃ X, X = w3.heap.size := ⟨_, rfl⟩
    rw [← hX] at xB ⊢
    clear hX
    refine (CS.out w4 (below_next W3.out k4)).mono ?_
    rintro e w5 ⟨v, rfl, ov, k5⟩
    obtain ⟨i0, j0, i1, j1, i2, j2, rfl, o5⟩ := ov.rows
    have G5 := Lib.hid (carryN (below_next k4 k5) G3.out)
    have Q5 := Lib.hid (carryN (below_next k4 k5) Q3.out)
    have X5 := Lib.hid (carryN k5 xB)
    have O5 := Lib.hid (o3.below (below_next k4 k5))
    have K5 := Lib.hid (below_next K3.out (below_next k4 k5))
    have W5 := Lib.hid (below_next W3.out (below_next k4 k5))
    have V5 := Lib.hid o5
    clear cG lG cA lA k4 k5 xB o3 o5 ov G3 Q3 K3 W3
    have cX := cell_of_block X5.out
    have lX := lt_of_block X5.out
    go_wp2_with fail
    obtain ⟨w6, hw6, sw6, wB, k6⟩ := blocks1 w5 (.cells #[.slice i0 y.es.length j0, .slice i1 y.fl.length j1, .slice i2 y.la.length j2] 46)
    rw [← hw6]
    clear hw6 sw6
    obtain ⟨U, hU⟩ : ∃ U, U = w5.heap.size := ⟨_, rfl⟩
    rw [← hU] at wB ⊢
    clear hU
    refine (wpGame_c y e0 e1 e2 i0 i1 i2 _ _ _ _ _ _ j0 j1 j2 _ ((O5.out.below k6).e.sl five_len) ((O5.out.below k6).f.sl int_len) ((O5.out.below k6).l.sl int_len) ((V5.out.below k6).e.sl five_len) ((V5.out.below k6).f.sl int_len) ((V5.out.below k6).l.sl int_len)).mono ?_
    rintro e w7 ⟨rfl, k7⟩
    have G7 := Lib.hid (carryN (below_next k6 k7) G5.out)
    have Q7 := Lib.hid (carryN (below_next k6 k7) Q5.out)
    have X7 := Lib.hid (carryN (below_next k6 k7) X5.out)
    have U7 := Lib.hid (carryN k7 wB)
    have O7 := Lib.hid (O5.out.below (below_next k6 k7))
    have V7 := Lib.hid (V5.out.below (below_next k6 k7))
    have K7 := Lib.hid (below_next K5.out (below_next k6 k7))
    have W7 := Lib.hid (below_next W5.out (below_next k6 k7))
    clear cX lX k6 k7 wB G5 Q5 X5 O5 V5 K5 W5
    have cX := cell_of_block X7.out
    have lX := lt_of_block X7.out
    have cU := cell_of_block U7.out
    have lU := lt_of_block U7.out
    have C7 := Lib.hid (fun V (k : Below w7.heap.size w7 V) => wpGame_c y e0 e1 e2 i0 i1 i2 _ _ _ _ _ _ j0 j1 j2 V ((O7.out.below k).e.sl five_len) ((O7.out.below k).f.sl int_len) ((O7.out.below k).l.sl int_len) ((V7.out.below k).e.sl five_len) ((V7.out.below k).f.sl int_len) ((V7.out.below k).l.sl int_len))
    by_cases hb1 : b = 1
    · subst hb1
      go_wp2_with fail
      refine (C7.out w7 (Below.refl _ _)).mono ?_
      rintro e w8 ⟨rfl, k8⟩
      clear cX lX cU lU
      go_wp2_with fail
      go_ret
      exact ⟨rfl, below_next K7.out k8⟩
    · by_cases hb2 : b = 2
      · subst hb2
        go_wp2_with fail
        refine (C7.out w7 (Below.refl _ _)).mono ?_
        rintro e w8 ⟨rfl, k8⟩
        clear cX lX cU lU
        go_wp2_with fail
        go_ret
        exact ⟨rfl, below_next K7.out k8⟩
      · obtain ⟨hgz, hgy, hc1, hc4, hlast, hes⟩ := CL.out hb1 hb2
        have HES := Lib.hid hes
        have HLZ := Lib.hid (gameB_lens hgz)
        have HLY := Lib.hid (gameB_lens hgy)
        have L0 := Lib.hid hlast
        obtain ⟨j, hj⟩ : ∃ j : Nat, (j : Int) = r.c - 1 := ⟨(r.c - 1).toNat, by omega⟩
        have hcj : r.c - 1 = (j : Int) := hj.symm
        have HJ := Lib.hid (show (r.c - 1).toNat = j by omega)
        have hwj : IntKind.i64.wrap (j : Int) = (j : Int) := IntWalk.i64_in _ ⟨by omega, by omega⟩
        have hj0 : (0 : Int) ≤ (j : Int) := by omega
        have hjy : (j : Int) < (y.la.length : Int) := by have := HLY.out; omega
        have hjz : (j : Int) < (z.la.length : Int) := by have := HLZ.out; omega
        obtain ⟨p1, q1, ha1, -, hcy⟩ := (O7.out.l.rows int_len) j (by omega)
        obtain ⟨-, -, -, hrz⟩ := (S2.out.below W7.out).bounds
        obtain ⟨p2, q2, ha2, -, hcz⟩ := hrz j (by omega)
        have cy := hcy 0 (by decide)
        have cz := hcz 0 (by decide)
        rw [Nat.mul_one, Nat.add_zero] at cy cz
        replace cy : w7.cell? ⟨p1, q1 + j, none⟩ = some (.int .i64 (y.la[j]'(by omega))) := cy
        replace cz : w7.cell? ⟨p2, q2 + j, none⟩ = some (.int .i64 (z.la[j]'(by omega))) := cz
        have g1 : y.la.getD j 0 = y.la[j]'(by omega) := by rw [List.getD_eq_getElem?_getD, List.getElem?_eq_getElem (by omega)]; rfl
        have g2 : z.la.getD j 0 = z.la[j]'(by omega) := by rw [List.getD_eq_getElem?_getD, List.getElem?_eq_getElem (by omega)]; rfl
        have L1 := L0.out
        rw [HJ.out, g1, g2] at L1
        generalize y.la[j]'(by omega) = v1 at cy L1
        generalize z.la[j]'(by omega) = v2 at cz L1
        subst ha1 ha2
        clear hlast hj hcy hcz hrz g1 g2 L0 hgz hgy hc1 hc4 hes
        by_cases hb3 : b = 3
        · subst hb3
          rw [if_pos rfl] at L1
          subst L1
          have cG7 := cell_of_block G7.out
          have lG7 := lt_of_block G7.out
          have cA7 := cell_of_block Q7.out
          have lA7 := lt_of_block Q7.out
          go_upto_region 14 with fail
          obtain ⟨w8, hw8, sw8, yB, k8⟩ := blocks1 w7 (.cells #[.slice e0 y.es.length y.es.length, .slice e1 y.fl.length y.fl.length, .slice (some ⟨p1, q1, none⟩) y.la.length y.la.length] 46)
          rw [← hw8]
          clear hw8 sw8
          obtain ⟨Y, hY⟩ : ∃ Y, Y = w7.heap.size := ⟨_, rfl⟩
          have hKY : w.heap.size ≤ Y := by rw [hY]; exact K7.out.size
          have HKY := Lib.hid hKY
          have HWY := Lib.hid (show w7.heap.size ≤ Y by rw [hY]; exact Nat.le_refl _)
          rw [← hY] at yB ⊢
          clear hY hKY
          have G8 := Lib.hid (carryN k8 G7.out)
          have YB := Lib.hid yB
          have K8 := Lib.hid k8
          clear cX lX cU lU cG7 lG7 cA7 lA7 yB k8 cy cz hjy hjz hcj hwj hj0
          have cG := cell_of_block G8.out
          have lG := lt_of_block G8.out
          have cY := cell_of_block YB.out
          have lY := lt_of_block YB.out
          have fY := unfrozen_of_block YB.out
          go_upto_region 15 with fail
          have B9 := Below.setCell K8.out (show w7.heap.size ≤ (⟨Y, 2, none⟩ : Addr).block from HWY.out) (.slice (some ⟨p2, q2, none⟩) z.la.length c2)
          have y9 : (w8.setCell ⟨Y, 2, none⟩ (.slice (some ⟨p2, q2, none⟩) z.la.length c2)).heap[Y]? = some (.cells #[.slice e0 y.es.length y.es.length, .slice e1 y.fl.length y.fl.length, .slice (some ⟨p2, q2, none⟩) z.la.length c2] 46 (0, 0)) := by exact block_setCell (i := 2) YB.out (.slice (some ⟨p2, q2, none⟩) z.la.length c2)
          obtain ⟨w9, hw9⟩ : ∃ V, V = w8.setCell ⟨Y, 2, none⟩ (.slice (some ⟨p2, q2, none⟩) z.la.length c2) := ⟨_, rfl⟩
          rw [← hw9] at B9 y9 ⊢
          have O9 := Lib.hid (O7.out.below B9)
          have T0 := Lib.hid (S0.out.below (below_next W7.out B9))
          have T1 := Lib.hid (S1.out.below (below_next W7.out B9))
          have T2 := Lib.hid (S2.out.below (below_next W7.out B9))
          have G9 := Lib.hid (carryN B9 G7.out)
          have Y9 := Lib.hid y9
          have K9 := Lib.hid (below_next K7.out B9)
          clear hw9 y9 B9 cG lG cY lY fY
          have cG := cell_of_block G9.out
          have lG := lt_of_block G9.out
          have cY := cell_of_block Y9.out
          have lY := lt_of_block Y9.out
          go_wp2_with fail
          obtain ⟨hE, hF⟩ := HES.out (by decide)
          have t0 := O9.out.e.sl five_len
          have t1 := O9.out.f.sl int_len
          rw [hE] at t0
          rw [hF] at t1
          rw [hE, hF]
          refine (wpGame_c z e0 e1 _ a0 a1 _ _ _ _ _ _ _ _ _ _ _ t0 t1 T2.out T0.out T1.out T2.out).mono ?_
          rintro e w10 ⟨rfl, k10⟩
          clear cG lG cY lY hE hF t0 t1
          go_wp2_with fail
          go_ret
          exact ⟨rfl, below_next K9.out k10⟩
        · have n1 : (b == 1) = false := by simp; omega
          have n2 : (b == 2) = false := by simp; omega
          have n3 : (b == 3) = false := by simp; omega
          rw [if_neg hb3] at L1
          subst L1
          have cG7 := cell_of_block G7.out
          have lG7 := lt_of_block G7.out
          have cA7 := cell_of_block Q7.out
          have lA7 := lt_of_block Q7.out
          go_upto_region 14 with fail
          obtain ⟨w8, hw8, sw8, yB, k8⟩ := blocks1 w7 (.cells #[.slice e0 y.es.length y.es.length, .slice e1 y.fl.length y.fl.length, .slice (some ⟨p1, q1, none⟩) y.la.length y.la.length] 46)
          rw [← hw8]
          clear hw8 sw8
          obtain ⟨Y, hY⟩ : ∃ Y, Y = w7.heap.size := ⟨_, rfl⟩
          have hKY : w.heap.size ≤ Y := by rw [hY]; exact K7.out.size
          have HKY := Lib.hid hKY
          have HWY := Lib.hid (show w7.heap.size ≤ Y by rw [hY]; exact Nat.le_refl _)
          rw [← hY] at yB ⊢
          clear hY hKY
          have G8 := Lib.hid (carryN k8 G7.out)
          have YB := Lib.hid yB
          have K8 := Lib.hid k8
          clear cX lX cU lU cG7 lG7 cA7 lA7 yB k8 cy cz hjy hjz hcj hwj hj0
          have cG := cell_of_block G8.out
          have lG := lt_of_block G8.out
          have cY := cell_of_block YB.out
          have lY := lt_of_block YB.out
          have fY := unfrozen_of_block YB.out
          go_upto_region 15 with fail
          have B9 := Below.setCell K8.out (show w7.heap.size ≤ (⟨Y, 2, none⟩ : Addr).block from HWY.out) (.slice (some ⟨p2, q2, none⟩) z.la.length c2)
          have y9 : (w8.setCell ⟨Y, 2, none⟩ (.slice (some ⟨p2, q2, none⟩) z.la.length c2)).heap[Y]? = some (.cells #[.slice e0 y.es.length y.es.length, .slice e1 y.fl.length y.fl.length, .slice (some ⟨p2, q2, none⟩) z.la.length c2] 46 (0, 0)) := by exact block_setCell (i := 2) YB.out (.slice (some ⟨p2, q2, none⟩) z.la.length c2)
          obtain ⟨w9, hw9⟩ : ∃ V, V = w8.setCell ⟨Y, 2, none⟩ (.slice (some ⟨p2, q2, none⟩) z.la.length c2) := ⟨_, rfl⟩
          rw [← hw9] at B9 y9 ⊢
          have O9 := Lib.hid (O7.out.below B9)
          have T0 := Lib.hid (S0.out.below (below_next W7.out B9))
          have T1 := Lib.hid (S1.out.below (below_next W7.out B9))
          have T2 := Lib.hid (S2.out.below (below_next W7.out B9))
          have G9 := Lib.hid (carryN B9 G7.out)
          have Y9 := Lib.hid y9
          have K9 := Lib.hid (below_next K7.out B9)
          clear hw9 y9 B9 cG lG cY lY fY
          have cG := cell_of_block G9.out
          have lG := lt_of_block G9.out
          have cY := cell_of_block Y9.out
          have lY := lt_of_block Y9.out
          by_cases hb0 : b = 0
          · subst hb0
            clear n1 n2 n3
            go_wp2_with fail
            go_ret
            exact ⟨rfl, K9.out⟩
          · have n0 : (b == 0) = false := by simp; omega
            go_wp2_with fail
            obtain ⟨hE, hF⟩ := HES.out hb0
            have t0 := O9.out.e.sl five_len
            have t1 := O9.out.f.sl int_len
            rw [hE] at t0
            rw [hF] at t1
            rw [hE, hF]
            refine (wpGame_c z e0 e1 _ a0 a1 _ _ _ _ _ _ _ _ _ _ _ t0 t1 T2.out T0.out T1.out T2.out).mono ?_
            rintro e w10 ⟨rfl, k10⟩
            clear cG lG cY lY hE hF t0 t1
            go_wp2_with fail
            go_ret
            exact ⟨rfl, below_next K9.out k10⟩
end Go.Proofs.Ytofedboeggdkaaa.fnGameCode

/-! FnGameCode: the law returns true for every input; no condition. -/
namespace Go.Proofs.Ytofedboeggdkaaa.fnGameCode
open Go.ChangeShapes hiding open_int
open Go.WideShapes Go.ChangeAt Go.RowKit
open Go.ChangeMaps (shut_string)
set_option linter.unusedVariables false

theorem own : ownKnob Try.prog.godebug = none := by kernel_rfl
theorem laidOut : laidOutB Try.prog = true := by kernel_rfl

set_option maxRecDepth 100000 in
theorem lifted (os : Os) (started : os.Started) (H : Type) (enc : TypeId × Value → H) :
    ReturnsInHanded {} Try.checked os 8 .any (Rows.fnGameCodeSpec.pre6 enc Try.prog Try.f8 Rows.fnGameCodeRow.domain false) (Rows.fnGameCodeSpec.post enc Try.prog Try.f8 false true false false) := by
  refine returnsInHanded_of_change (C := Try.checked) own started (by kernel_rfl) Try.func8
    (ChangeSpec.witness6 (enc := enc) (C := Try.checked) false ⟨#[], #[.slice none 0 0], []⟩ 8 (by kernel_rfl) (by kernel_rfl) (by kernel_rfl) (by kernel_rfl)) ?_
  intro W base args ds gs before hval0 hW hcnd _
  have hval : ∀ (j : Nat) t v, Try.f8.params[j]? = some t → args[j]? = some v → Value.okWide Try.prog W .any base t v := hval0
  have hW' := hW
  obtain ⟨p, q, hA0, hV, rfl, hfz, hnd⟩ := hW
  have hA : DataW.TrodAll enc Try.prog W 0 (fun _ => true) true Try.f8.params.toList args.toList ds p := hA0
  rw [Try.params8] at hA hval
  obtain ⟨v0, vs0, d0, ds0, p0, q0, hargs, rfl, rfl, h0, r0⟩ := trodAll_cons hA
  obtain ⟨rfl, rfl, rfl⟩ := trodAll_nil r0
  obtain rfl : args = #[v0] := by cases args; simp_all
  obtain ⟨rfl, rfl⟩ := trodVars_none hV
  have lt0 : ∀ x ∈ p0, x.block < W.heap.size := by obtain ⟨m, hm⟩ := h0; exact DataW.trod_lt m _ _ _ hm
  obtain ⟨z0, o0⟩ := open_bytes (hval 0 39 v0 rfl rfl) h0
  clear hA0 hval0
  refine (walk v0 z0 W o0).mono fun e W' ⟨he, bel⟩ => ?_
  subst he
  exact ⟨_, rfl, _, _, _, [], _, [], hW', trodAll_mk1 (shut_bool Try.underlying4 _), (trodAll_cons_mk (Below.trod laidOut (by kernel_rfl) (of_decide_eq_true (by kernel_rfl)) h0 bel lt0) trodAll_mk0), rfl, bel.frame _, fun h => by cases h⟩

theorem over : Rows.fnGameCodeRow.holds Try.pinned (OpenSpec.ofChange Rows.fnGameCodeSpec) :=
  OpenClaim.holds_of_wide 8 Try.f8 rfl rfl rfl rfl rfl rfl rfl ⟨rfl, rfl, rfl, rfl, rfl⟩ rfl rfl rfl rfl rfl (by kernel_rfl) Try.func8 (by kernel_rfl)
    (of_decide_eq_true (by kernel_rfl)) (by unfold Func.isWrapper; first | (rw [if_pos (by decide +kernel)]; kernel_rfl) | (rw [if_neg (by decide +kernel)]; exact ⟨rfl, rfl⟩))
    (fun os started H enc _ => lifted os started H enc)

theorem proved : Rows.FnGameCodeSaid := over
end Go.Proofs.Ytofedboeggdkaaa.fnGameCode
