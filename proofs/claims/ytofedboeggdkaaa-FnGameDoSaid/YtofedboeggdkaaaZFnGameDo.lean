/- The walk of FnGameDo: it returns true for every code; no condition. | FnGameDo: the law returns true for every input; no condition. -/
import Derived.Test.YtofedboeggdkaaaKG
import Derived.Test.YtofedboeggdkaaaKE
import Derived.Test.YtofedboeggdkaaaKA
import Derived.ProofKit
import Derived.OpenShut
import Derived.ShutString
import Derived.ChangeOld
import Derived.Below
set_option linter.unusedSimpArgs false
set_option linter.unusedVariables false
/-! The walk of FnGameDo: it returns true for every code; no condition. -/
namespace Go.Proofs.Ytofedboeggdkaaa.fnGameDo
open Go.RowKit Go.Joins
attribute [local go_sem ↓] eql_rq neq_rq

set_option maxRecDepth 100000 in
set_option maxHeartbeats 16000000 in
theorem walk (v0 : Value) (z0 : Bts) (w : World) (h0 : IsBytes w v0 z0) :
    Calls Try.prog 9 #[v0] w fun e w' => e = .returned (.bool true) ∧ Below w.heap.size w w' := by
  obtain ⟨a, n, cap⟩ := z0
  have HZ := Lib.hid h0
  obtain ⟨hv, hlc, hm, -⟩ := h0
  simp only at hv hlc hm
  subst hv
  by_cases hbig : (1048576 : Int) < n
  · go_enter Try.func9, Try.ntmps9
    go_wp2_with fail
    go_ret
    exact ⟨rfl, Below.refl _ _⟩
  · go_enter Try.func9, Try.ntmps9
    go_wp2_with fail
    refine (DrawGameDo_c _ _ w HZ.out).mono ?_
    rintro e w1 ⟨z, r, a0, a1, a2, c0, c1, c2, rfl, l0, l1, l2, s0, s1, s2, k1⟩
    have CI := Lib.hid (fun V (k : Below w1.heap.size w1 V) => show Calls _ _ _ V (RetGF V.heap.size (doR z r).1 (doR z r).2 V) from GameDoF_c z r a0 a1 a2 c0 c1 c2 V (s0.below k) (s1.below k) (s2.below k) (by omega))
    have CS := Lib.hid (fun V (k : Below w1.heap.size w1 V) => sGameDoG_c z r a0 a1 a2 c0 c1 c2 V (s0.below k) (s1.below k) (s2.below k) (by omega))
    have CL := Lib.hid (again_law (z := z) (r := r))
    have CO := Lib.hid (fun V h0 h1 h2 => GameOk_c z a0 a1 a2 c0 c1 c2 V h0 h1 h2 (by omega))
    have CP := Lib.hid (fun V h0 h1 h2 => sGameOk_c z a0 a1 a2 c0 c1 c2 V h0 h1 h2 (by omega))
    obtain ⟨p, hp⟩ : ∃ p, p = doR z r := ⟨_, rfl⟩
    rw [← hp] at CI CS CL
    obtain ⟨y, b⟩ := p
    simp only at CI CS CL
    have S0 := Lib.hid s0
    have S1 := Lib.hid s1
    have S2 := Lib.hid s2
    have K1 := Lib.hid k1
    clear hp s0 s1 s2 k1 HZ
    go_wp2_with fail
    obtain ⟨w2, hw2, sw2, gB, qB, k2⟩ := blocks2 w1 (.cells #[.slice a0 z.es.length c0, .slice a1 z.fl.length c1, .slice a2 z.la.length c2] 46) (.cells #[.int .i64 r.c, .int .i64 r.n, .int .i64 r.o, .int .i64 r.x, .int .i64 r.y] 34)
    rw [← hw2]
    clear hw2
    refine (CI.out w2 k2).mono ?_
    rintro e w3 ⟨e0, e1, e2, rfl, o3, k3⟩
    have G3 := Lib.hid (carryN k3 gB)
    have Q3 := Lib.hid (carryN k3 qB)
    have K3 := Lib.hid (below_next K1.out (below_next k2 k3))
    have W3 := Lib.hid (below_next k2 k3)
    clear gB qB k2 k3 sw2
    have cG := cell_of_block G3.out
    have lG := lt_of_block G3.out
    have cA := cell_of_block Q3.out
    have lA := lt_of_block Q3.out
    obtain ⟨P, hP⟩ : ∃ P, P = w1.heap.size := ⟨_, rfl⟩
    rw [← hP] at G3 Q3 cG lG cA lA ⊢
    clear hP
    go_wp2_with fail
    obtain ⟨w4, hw4, sw4, xB, k4⟩ := blocks1 w3 (.cells #[.slice e0 y.es.length y.es.length, .slice e1 y.fl.length y.fl.length, .slice e2 y.la.length y.la.length] 46)
    rw [← hw4]
    clear hw4 sw4
    obtain ⟨X, hX⟩ : ∃ X, X = w3.heap.size := ⟨_, rfl⟩
    rw [← hX] at xB ⊢
    clear hX
    refine (CS.out w4 (below_next W3.out k4)).mono ?_
    rintro e w5 ⟨v, rfl, ov, k5⟩
    obtain ⟨i0, j0, i1, j1, i2, j2, rfl, o5⟩ := ov.rows
    have G5 := Lib.hid (carryN (below_next k4 k5) G3.out)
    have Q5 := Lib.hid (carryN (below_next k4 k5) Q3.out)
    have X5 := Lib.hid (carryN k5 xB)
    have O5 := Lib.hid (o3.below (below_next k4 k5))
    have K5 := Lib.hid (below_next K3.out (below_next k4 k5))
    have W5 := Lib.hid (below_next W3.out (below_next k4 k5))
    have V5 := Lib.hid o5
    clear cG lG cA lA k4 k5 xB o3 o5 ov G3 Q3 K3 W3
    have cX := cell_of_block X5.out
    have lX := lt_of_block X5.out
    go_wp2_with fail
    obtain ⟨w6, hw6, sw6, wB, k6⟩ := blocks1 w5 (.cells #[.slice i0 y.es.length j0, .slice i1 y.fl.length j1, .slice i2 y.la.length j2] 46)
    rw [← hw6]
    clear hw6 sw6
    obtain ⟨U, hU⟩ : ∃ U, U = w5.heap.size := ⟨_, rfl⟩
    rw [← hU] at wB ⊢
    clear hU
    have G6 := Lib.hid (carryN k6 G5.out)
    have Q6 := Lib.hid (carryN k6 Q5.out)
    have X6 := Lib.hid (carryN k6 X5.out)
    have U6 := Lib.hid wB
    have O6 := Lib.hid (O5.out.below k6)
    have V6 := Lib.hid (V5.out.below k6)
    have K6 := Lib.hid (below_next K5.out k6)
    have W6 := Lib.hid (below_next W5.out k6)
    clear cX lX k6 wB G5 Q5 X5 O5 V5 K5 W5
    obtain ⟨gb, hgb⟩ : ∃ gb, gb = gameB z := ⟨_, rfl⟩
    have HGB := Lib.hid hgb
    rw [← hgb] at CO CP
    clear hgb
    have qC := quietC (fun V (k : Below w6.heap.size w6 V) => wpGame_c y e0 e1 e2 i0 i1 i2 _ _ _ _ _ _ j0 j1 j2 V ((O6.out.below k).e.sl five_len) ((O6.out.below k).f.sl int_len) ((O6.out.below k).l.sl int_len) ((V6.out.below k).e.sl five_len) ((V6.out.below k).f.sl int_len) ((V6.out.below k).l.sl int_len))
    have qO := quietC (fun V (k : Below w6.heap.size w6 V) => CO.out V (S0.out.below (below_next W6.out k)) (S1.out.below (below_next W6.out k)) (S2.out.below (below_next W6.out k)))
    have qP := quietC (fun V (k : Below w6.heap.size w6 V) => CP.out V (S0.out.below (below_next W6.out k)) (S1.out.below (below_next W6.out k)) (S2.out.below (below_next W6.out k)))
    have rG := cellRe G6.out
    have rX := cellRe X6.out
    have rU := cellRe U6.out
    by_cases hb1 : b = 1
    · subst hb1
      refine wp_region_quiet_below (by kernel_rfl) (by kernel_rfl) ?_
      repeat (go_big_quiet_step (first | with_reducible exact qC _ _ | with_reducible exact qO _ _ | with_reducible exact qP _ _))
      refine wpQuiet_nil ?_
      intro _ hw'
      obtain ⟨⟨dq, osq⟩, hw''⟩ := hw'
      subst hw''
      have hkb := below_regrown w6 dq osq
      obtain ⟨w7, hw7⟩ : ∃ V, V = Sort.grow (redrawn w6 dq) osq := ⟨_, rfl⟩
      rw [← hw7] at hkb ⊢
      have G7 := Lib.hid (carryN hkb G6.out)
      have Q7 := Lib.hid (carryN hkb Q6.out)
      have X7 := Lib.hid (carryN hkb X6.out)
      have U7 := Lib.hid (carryN hkb U6.out)
      have O7 := Lib.hid (O6.out.below hkb)
      have V7 := Lib.hid (V6.out.below hkb)
      have K7 := Lib.hid (below_next K6.out hkb)
      have W7 := Lib.hid (below_next W6.out hkb)
      clear hw7 hkb qC qO qP rG rX rU
      have qC := quietC (fun V (k : Below w7.heap.size w7 V) => wpGame_c y e0 e1 e2 i0 i1 i2 _ _ _ _ _ _ j0 j1 j2 V ((O7.out.below k).e.sl five_len) ((O7.out.below k).f.sl int_len) ((O7.out.below k).l.sl int_len) ((V7.out.below k).e.sl five_len) ((V7.out.below k).f.sl int_len) ((V7.out.below k).l.sl int_len))
      have qO := quietC (fun V (k : Below w7.heap.size w7 V) => CO.out V (S0.out.below (below_next W7.out k)) (S1.out.below (below_next W7.out k)) (S2.out.below (below_next W7.out k)))
      have qP := quietC (fun V (k : Below w7.heap.size w7 V) => CP.out V (S0.out.below (below_next W7.out k)) (S1.out.below (below_next W7.out k)) (S2.out.below (below_next W7.out k)))
      have rG := cellRe G7.out
      have rX := cellRe X7.out
      have rU := cellRe U7.out
      go_wp2_with fail
      refine wp_region_quiet_below (by kernel_rfl) (by kernel_rfl) ?_
      repeat (go_big_quiet_step (first | with_reducible exact qC _ _ | with_reducible exact qO _ _ | with_reducible exact qP _ _))
      refine wpQuiet_nil ?_
      intro _ hw'
      obtain ⟨⟨dq, osq⟩, hw''⟩ := hw'
      subst hw''
      have hkb := below_regrown w7 dq osq
      obtain ⟨w8, hw8⟩ : ∃ V, V = Sort.grow (redrawn w7 dq) osq := ⟨_, rfl⟩
      rw [← hw8] at hkb ⊢
      have K8 := Lib.hid (below_next K7.out hkb)
      clear hw8 hkb qC qO qP rG rX rU
      go_wp2_with fail
      go_ret
      exact ⟨rfl, K8.out⟩
    · have n1 : (b == 1) = false := by simp; omega
      refine wp_region_quiet_below (by kernel_rfl) (by kernel_rfl) ?_
      repeat (go_big_quiet_step (first | with_reducible exact qC _ _ | with_reducible exact qO _ _ | with_reducible exact qP _ _))
      refine wpQuiet_nil ?_
      intro _ hw'
      obtain ⟨⟨dq, osq⟩, hw''⟩ := hw'
      subst hw''
      have hkb := below_regrown w6 dq osq
      obtain ⟨w7, hw7⟩ : ∃ V, V = Sort.grow (redrawn w6 dq) osq := ⟨_, rfl⟩
      rw [← hw7] at hkb ⊢
      have G7 := Lib.hid (carryN hkb G6.out)
      have Q7 := Lib.hid (carryN hkb Q6.out)
      have X7 := Lib.hid (carryN hkb X6.out)
      have U7 := Lib.hid (carryN hkb U6.out)
      have O7 := Lib.hid (O6.out.below hkb)
      have V7 := Lib.hid (V6.out.below hkb)
      have K7 := Lib.hid (below_next K6.out hkb)
      have W7 := Lib.hid (below_next W6.out hkb)
      clear hw7 hkb qC qO qP rG rX rU
      obtain ⟨hgz, hgy, hyy, hzz, hnz⟩ := CL.out hb1
      have HGZ := Lib.hid hgz
      have LY := Lib.hid (gameB_lens hgy)
      have HGY := Lib.hid hgy
      have CJ := Lib.hid (fun V (k : Below w7.heap.size w7 V) => show Calls _ _ _ V (RetGF V.heap.size (doR y r).1 (doR y r).2 V) from GameDoF_c y r e0 e1 e2 _ _ _ V ((O7.out.below k).e.sl five_len) ((O7.out.below k).f.sl int_len) ((O7.out.below k).l.sl int_len) (by have := LY.out; omega))
      rw [hyy] at CJ
      obtain ⟨d, hd⟩ : ∃ d, d = (doR y r).2 := ⟨_, rfl⟩
      rw [← hd] at CJ hzz hnz
      have HZZ := Lib.hid hzz
      have HNZ := Lib.hid hnz
      clear hgz hgy hyy hzz hnz hd n1 CO CP
      have cX := cell_of_block X7.out
      have lX := lt_of_block X7.out
      have cA := cell_of_block Q7.out
      have lA := lt_of_block Q7.out
      go_wp2_with fail
      refine (CJ.out w7 (Below.refl _ _)).mono ?_
      rintro e w8 ⟨t0, t1, t2, rfl, o8, k8⟩
      have cA := cell_of_block (carryN k8 Q7.out)
      have lA := lt_of_block (carryN k8 Q7.out)
      clear cX lX
      by_cases hr0 : r = ⟨0, 0, 0, 0, 0⟩
      · obtain ⟨hd2, hyz⟩ := HZZ.out hr0
        subst hd2
        subst hyz
        have hez : eqR r.c r.n r.o r.x r.y 0 0 0 0 0 = true := by rw [hr0]; rfl
        clear hr0 HZZ HNZ CJ
        have X8 := Lib.hid (carryN k8 X7.out)
        have O8 := Lib.hid (O7.out.below k8)
        have K8 := Lib.hid (below_next K7.out k8)
        have W8 := Lib.hid (below_next W7.out k8)
        have G8 := Lib.hid (carryN k8 G7.out)
        have T8 := Lib.hid o8
        clear k8 o8 X7 O7 K7 W7 G7
        have CY := Lib.hid (fun V h0 h1 h2 => GameOk_c y e0 e1 e2 y.es.length y.fl.length y.la.length V h0 h1 h2 (by have := LY.out; omega))
        rw [HGY.out] at CY
        have cX := cell_of_block X8.out
        have lX := lt_of_block X8.out
        go_wp2_with fail
        obtain ⟨w9, hw9, sw9, jB, k9⟩ := blocks1 w8 (.cells #[.slice t0 y.es.length y.es.length, .slice t1 y.fl.length y.fl.length, .slice t2 y.la.length y.la.length] 46)
        rw [← hw9]
        clear hw9 sw9 cA lA cX lX
        refine (CY.out w9 ((O8.out.below k9).e.sl five_len) ((O8.out.below k9).f.sl int_len) ((O8.out.below k9).l.sl int_len)).mono ?_
        rintro e w10 ⟨rfl, k10⟩
        have X10 := Lib.hid (carryN (below_next k9 k10) X8.out)
        have G10 := Lib.hid (carryN (below_next k9 k10) G8.out)
        have J10 := Lib.hid (carryN k10 jB)
        have O10 := Lib.hid (O8.out.below (below_next k9 k10))
        have T10 := Lib.hid (T8.out.below (below_next k9 k10))
        have K10 := Lib.hid (below_next K8.out (below_next k9 k10))
        have W10 := Lib.hid (below_next W8.out (below_next k9 k10))
        clear k9 k10 jB X8 G8 O8 T8 K8 W8
        have cX := cell_of_block X10.out
        have lX := lt_of_block X10.out
        have cJ := cell_of_block J10.out
        have lJ := lt_of_block J10.out
        go_wp2_with fail
        refine (wpGame_c y t0 t1 t2 e0 e1 e2 _ _ _ _ _ _ _ _ _ w10 (T10.out.e.sl five_len) (T10.out.f.sl int_len) (T10.out.l.sl int_len) (O10.out.e.sl five_len) (O10.out.f.sl int_len) (O10.out.l.sl int_len)).mono ?_
        rintro e w11 ⟨rfl, k11⟩
        clear cX lX cJ lJ
        have cX := cell_of_block (carryN k11 X10.out)
        have lX := lt_of_block (carryN k11 X10.out)
        have cG := cell_of_block (carryN k11 G10.out)
        have lG := lt_of_block (carryN k11 G10.out)
        go_wp2_with fail
        refine (wpGame_c y e0 e1 e2 a0 a1 a2 _ _ _ _ _ _ c0 c1 c2 w11 ((O10.out.below k11).e.sl five_len) ((O10.out.below k11).f.sl int_len) ((O10.out.below k11).l.sl int_len) (S0.out.below (below_next W10.out k11)) (S1.out.below (below_next W10.out k11)) (S2.out.below (below_next W10.out k11))).mono ?_
        rintro e w12 ⟨rfl, k12⟩
        clear cX lX cG lG
        go_wp2_with fail
        go_ret
        exact ⟨rfl, below_next K10.out (below_next k11 k12)⟩
      · have hd3 := HNZ.out hr0
        subst hd3
        have hez : eqR r.c r.n r.o r.x r.y 0 0 0 0 0 = false := eqR_ne (s := ⟨0, 0, 0, 0, 0⟩) hr0
        clear hr0 HZZ HNZ CJ
        have X8 := Lib.hid (carryN k8 X7.out)
        have O8 := Lib.hid (O7.out.below k8)
        have K8 := Lib.hid (below_next K7.out k8)
        have W8 := Lib.hid (below_next W7.out k8)
        have G8 := Lib.hid (carryN k8 G7.out)
        have T8 := Lib.hid o8
        clear k8 o8 X7 O7 K7 W7 G7
        have CY := Lib.hid (fun V h0 h1 h2 => GameOk_c y e0 e1 e2 y.es.length y.fl.length y.la.length V h0 h1 h2 (by have := LY.out; omega))
        rw [HGY.out] at CY
        have cX := cell_of_block X8.out
        have lX := lt_of_block X8.out
        go_wp2_with fail
        obtain ⟨w9, hw9, sw9, jB, k9⟩ := blocks1 w8 (.cells #[.slice t0 y.es.length y.es.length, .slice t1 y.fl.length y.fl.length, .slice t2 y.la.length y.la.length] 46)
        rw [← hw9]
        clear hw9 sw9 cA lA cX lX
        refine (CY.out w9 ((O8.out.below k9).e.sl five_len) ((O8.out.below k9).f.sl int_len) ((O8.out.below k9).l.sl int_len)).mono ?_
        rintro e w10 ⟨rfl, k10⟩
        have X10 := Lib.hid (carryN (below_next k9 k10) X8.out)
        have G10 := Lib.hid (carryN (below_next k9 k10) G8.out)
        have J10 := Lib.hid (carryN k10 jB)
        have O10 := Lib.hid (O8.out.below (below_next k9 k10))
        have T10 := Lib.hid (T8.out.below (below_next k9 k10))
        have K10 := Lib.hid (below_next K8.out (below_next k9 k10))
        have W10 := Lib.hid (below_next W8.out (below_next k9 k10))
        clear k9 k10 jB X8 G8 O8 T8 K8 W8
        have cX := cell_of_block X10.out
        have lX := lt_of_block X10.out
        have cJ := cell_of_block J10.out
        have lJ := lt_of_block J10.out
        go_wp2_with fail
        refine (wpGame_c y t0 t1 t2 e0 e1 e2 _ _ _ _ _ _ _ _ _ w10 (T10.out.e.sl five_len) (T10.out.f.sl int_len) (T10.out.l.sl int_len) (O10.out.e.sl five_len) (O10.out.f.sl int_len) (O10.out.l.sl int_len)).mono ?_
        rintro e w11 ⟨rfl, k11⟩
        clear cX lX cJ lJ
        go_wp2_with fail
        go_ret
        exact ⟨rfl, below_next K10.out k11⟩
end Go.Proofs.Ytofedboeggdkaaa.fnGameDo

/-! FnGameDo: the law returns true for every input; no condition. -/
namespace Go.Proofs.Ytofedboeggdkaaa.fnGameDo
open Go.ChangeShapes hiding open_int
open Go.WideShapes Go.ChangeAt Go.RowKit
open Go.ChangeMaps (shut_string)
set_option linter.unusedVariables false

theorem own : ownKnob Try.prog.godebug = none := by kernel_rfl
theorem laidOut : laidOutB Try.prog = true := by kernel_rfl

set_option maxRecDepth 100000 in
theorem lifted (os : Os) (started : os.Started) (H : Type) (enc : TypeId × Value → H) :
    ReturnsInHanded {} Try.checked os 9 .any (Rows.fnGameDoSpec.pre6 enc Try.prog Try.f9 Rows.fnGameDoRow.domain false) (Rows.fnGameDoSpec.post enc Try.prog Try.f9 false true false false) := by
  refine returnsInHanded_of_change (C := Try.checked) own started (by kernel_rfl) Try.func9
    (ChangeSpec.witness6 (enc := enc) (C := Try.checked) false ⟨#[], #[.slice none 0 0], []⟩ 8 (by kernel_rfl) (by kernel_rfl) (by kernel_rfl) (by kernel_rfl)) ?_
  intro W base args ds gs before hval0 hW hcnd _
  have hval : ∀ (j : Nat) t v, Try.f9.params[j]? = some t → args[j]? = some v → Value.okWide Try.prog W .any base t v := hval0
  have hW' := hW
  obtain ⟨p, q, hA0, hV, rfl, hfz, hnd⟩ := hW
  have hA : DataW.TrodAll enc Try.prog W 0 (fun _ => true) true Try.f9.params.toList args.toList ds p := hA0
  rw [Try.params9] at hA hval
  obtain ⟨v0, vs0, d0, ds0, p0, q0, hargs, rfl, rfl, h0, r0⟩ := trodAll_cons hA
  obtain ⟨rfl, rfl, rfl⟩ := trodAll_nil r0
  obtain rfl : args = #[v0] := by cases args; simp_all
  obtain ⟨rfl, rfl⟩ := trodVars_none hV
  have lt0 : ∀ x ∈ p0, x.block < W.heap.size := by obtain ⟨m, hm⟩ := h0; exact DataW.trod_lt m _ _ _ hm
  obtain ⟨z0, o0⟩ := open_bytes (hval 0 39 v0 rfl rfl) h0
  clear hA0 hval0
  refine (walk v0 z0 W o0).mono fun e W' ⟨he, bel⟩ => ?_
  subst he
  exact ⟨_, rfl, _, _, _, [], _, [], hW', trodAll_mk1 (shut_bool Try.underlying4 _), (trodAll_cons_mk (Below.trod laidOut (by kernel_rfl) (of_decide_eq_true (by kernel_rfl)) h0 bel lt0) trodAll_mk0), rfl, bel.frame _, fun h => by cases h⟩

theorem over : Rows.fnGameDoRow.holds Try.pinned (OpenSpec.ofChange Rows.fnGameDoSpec) :=
  OpenClaim.holds_of_wide 9 Try.f9 rfl rfl rfl rfl rfl rfl rfl ⟨rfl, rfl, rfl, rfl, rfl⟩ rfl rfl rfl rfl rfl (by kernel_rfl) Try.func9 (by kernel_rfl)
    (of_decide_eq_true (by kernel_rfl)) (by unfold Func.isWrapper; first | (rw [if_pos (by decide +kernel)]; kernel_rfl) | (rw [if_neg (by decide +kernel)]; exact ⟨rfl, rfl⟩))
    (fun os started H enc _ => lifted os started H enc)

theorem proved : Rows.FnGameDoSaid := over
end Go.Proofs.Ytofedboeggdkaaa.fnGameDo
