/- The walk of FnAheadPush: it returns true for every code; no condition. | FnAheadPush: the law returns true for every input; no condition. -/
import Derived.Test.YtofedboeggdkaaaKI
import Derived.Test.YtofedboeggdkaaaKA
import Derived.Test.YtofedboeggdkaaaKH
import Derived.ProofKit
import Derived.OpenShut
import Derived.ShutString
import Derived.ChangeOld
import Derived.Below
set_option linter.unusedSimpArgs false
set_option linter.unusedVariables false
/-! The walk of FnAheadPush: it returns true for every code; no condition. -/
namespace Go.Proofs.Ytofedboeggdkaaa.fnAheadPush
open Go.RowKit Go.Joins
attribute [local go_sem ↓] eql_rq neq_rq

set_option maxRecDepth 100000 in
set_option maxHeartbeats 16000000 in
theorem walk (v0 : Value) (z0 : Bts) (w : World) (h0 : IsBytes w v0 z0) :
    Calls Try.prog 5 #[v0] w fun e w' => e = .returned (.bool true) ∧ Below w.heap.size w w' := by
  obtain ⟨a, n, cap⟩ := z0
  have HZ := Lib.hid h0
  obtain ⟨hv, hlc, hm, -⟩ := h0
  simp only at hv hlc hm
  subst hv
  by_cases hbig : (1048576 : Int) < n
  · go_enter Try.func5, Try.ntmps5
    go_wp2_with fail
    go_ret
    exact ⟨rfl, Below.refl _ _⟩
  · go_enter Try.func5, Try.ntmps5
    go_wp2_with fail
    refine (DrawAheadPush_c _ _ w HZ.out).mono ?_
    rintro e w1 ⟨z, r, a0, a1, c0, c1, rfl, h8, h5, r0, r1, k1⟩
    have s0 := r0.sl five_len
    have s1 := r1.sl five_len
    have CI := Lib.hid (fun V (k : Below w1.heap.size w1 V) => AheadPush_c z r a0 a1 c0 c1 V (s0.below k) (s1.below k) (by omega))
    have CS := Lib.hid (fun V (k : Below w1.heap.size w1 V) => sAheadPush_c z r a0 a1 c0 c1 V (s0.below k) (s1.below k) (by omega))
    have CG := Lib.hid (fun V (k : Below w1.heap.size w1 V) => AheadGame_c z a0 a1 c0 c1 V (s0.below k) (s1.below k) (by omega))
    have CU := Lib.hid (fun V (k : Below w1.heap.size w1 V) => AheadSure_c z a0 a1 c0 c1 V (s0.below k) (s1.below k) (by omega))
    have CO := Lib.hid (fun V (k : Below w1.heap.size w1 V) => AheadOk_c z a0 a1 c0 c1 V (s0.below k) (s1.below k) (by omega))
    have CP := Lib.hid (fun V (k : Below w1.heap.size w1 V) => sAheadOk_c z a0 a1 c0 c1 V (s0.below k) (s1.below k) (by omega))
    have S0 := Lib.hid s0
    have S1 := Lib.hid s1
    have K1 := Lib.hid k1
    have HS := Lib.hid (show z.dn.length + z.wt.length ≤ 13 by omega)
    have FY := Lib.hid (pushA_yes (z := z) (r := r))
    have FN := Lib.hid (pushA_no (z := z) (r := r))
    have HLX := Lib.hid (pushA_len z r (by omega))
    obtain ⟨p, hp⟩ : ∃ p, p = pushA z r := ⟨_, rfl⟩
    have HPP := Lib.hid hp
    rw [← hp] at CI CS FY FN HLX
    obtain ⟨x, b⟩ := p
    simp only at CI CS FY FN HLX
    obtain ⟨ab, hab⟩ : ∃ ab, ab = aheadB z := ⟨_, rfl⟩
    have HAB := Lib.hid hab
    rw [← hab] at CO CP
    clear hp hab s0 s1 k1 HZ r0 r1 h8 h5
    go_wp2_with fail
    obtain ⟨w2, hw2, sw2, aB, qB, k2⟩ := blocks2 w1 (.cells #[.slice a0 z.dn.length c0, .slice a1 z.wt.length c1, .int .i64 z.bk] 30) (.cells #[.int .i64 r.c, .int .i64 r.n, .int .i64 r.o, .int .i64 r.x, .int .i64 r.y] 34)
    rw [← hw2]
    clear hw2 sw2
    refine (CI.out w2 k2).mono ?_
    rintro e w3 ⟨b0, b1, rfl, p0, p1, -, k3⟩
    have A3 := Lib.hid (carryN k3 aB)
    have Q3 := Lib.hid (carryN k3 qB)
    have W3 := Lib.hid (below_next k2 k3)
    have P0 := Lib.hid (p0.sl five_len)
    have P1 := Lib.hid (p1.sl five_len)
    clear k2 k3 aB qB p0 p1
    have cA := cell_of_block A3.out
    have lA := lt_of_block A3.out
    have cQ := cell_of_block Q3.out
    have lQ := lt_of_block Q3.out
    obtain ⟨A, hA⟩ : ∃ A, A = w1.heap.size := ⟨_, rfl⟩
    rw [← hA] at A3 Q3 cA lA cQ lQ ⊢
    clear hA
    go_wp2_with fail
    obtain ⟨w4, hw4, sw4, xB, k4⟩ := blocks1 w3 (.cells #[.slice b0 x.dn.length x.dn.length, .slice b1 x.wt.length x.wt.length, .int .i64 x.bk] 30)
    rw [← hw4]
    clear hw4 sw4
    obtain ⟨X, hX⟩ : ∃ X, X = w3.heap.size := ⟨_, rfl⟩
    rw [← hX] at xB ⊢
    clear hX
    refine (CS.out w4 (below_next W3.out k4)).mono ?_
    rintro e w5 ⟨i0, j0, i1, j1, rfl, o0, o1, k5⟩
    have A5 := Lib.hid (carryN (below_next k4 k5) A3.out)
    have Q5 := Lib.hid (carryN (below_next k4 k5) Q3.out)
    have X5 := Lib.hid (carryN k5 xB)
    have P05 := Lib.hid (P0.out.below (below_next k4 k5))
    have P15 := Lib.hid (P1.out.below (below_next k4 k5))
    have W5 := Lib.hid (below_next W3.out (below_next k4 k5))
    have U0 := Lib.hid (o0.sl five_len)
    have U1 := Lib.hid (o1.sl five_len)
    clear cA lA cQ lQ k4 k5 xB o0 o1 A3 Q3 W3 P0 P1
    have cX := cell_of_block X5.out
    have lX := lt_of_block X5.out
    go_wp2_with fail
    obtain ⟨w6, hw6, sw6, wB, k6⟩ := blocks1 w5 (.cells #[.slice i0 x.dn.length j0, .slice i1 x.wt.length j1, .int .i64 x.bk] 30)
    rw [← hw6]
    clear hw6 sw6
    obtain ⟨U, hU⟩ : ∃ U, U = w5.heap.size := ⟨_, rfl⟩
    rw [← hU] at wB ⊢
    clear hU
    have A6 := Lib.hid (carryN k6 A5.out)
    have Q6 := Lib.hid (carryN k6 Q5.out)
    have X6 := Lib.hid (carryN k6 X5.out)
    have UB := Lib.hid wB
    have P06 := Lib.hid (P05.out.below k6)
    have P16 := Lib.hid (P15.out.below k6)
    have U06 := Lib.hid (U0.out.below k6)
    have U16 := Lib.hid (U1.out.below k6)
    have W6 := Lib.hid (below_next W5.out k6)
    clear cX lX k6 wB A5 Q5 X5 P05 P15 U0 U1 W5 CI CS
    have qC := quietC (fun V (k : Below w6.heap.size w6 V) => wpAhead_c x b0 b1 i0 i1 _ _ j0 j1 V (P06.out.below k) (P16.out.below k) (U06.out.below k) (U16.out.below k))
    have qO := quietC (fun V (k : Below w6.heap.size w6 V) => CO.out V (below_next W6.out k))
    have qP := quietC (fun V (k : Below w6.heap.size w6 V) => CP.out V (below_next W6.out k))
    have rA := cellRe A6.out
    have rX := cellRe X6.out
    have rU := cellRe UB.out
    cases ab with
    | false =>
      refine wp_region_quiet_below (by kernel_rfl) (by kernel_rfl) ?_
      repeat (go_big_quiet_step (first | with_reducible exact qC _ _ | with_reducible exact qO _ _ | with_reducible exact qP _ _))
      refine wpQuiet_nil ?_
      intro _ hw'
      obtain ⟨⟨dq, osq⟩, hw''⟩ := hw'
      subst hw''
      have hkb := below_regrown w6 dq osq
      obtain ⟨w7, hv7⟩ : ∃ V, V = Sort.grow (redrawn w6 dq) osq := ⟨_, rfl⟩
      rw [← hv7] at hkb ⊢
      clear hv7 qC qO qP rA rX rU
      have A7 := Lib.hid (carryN hkb A6.out)
      have Q7 := Lib.hid (carryN hkb Q6.out)
      have X7 := Lib.hid (carryN hkb X6.out)
      have UB7 := Lib.hid (carryN hkb UB.out)
      have P07 := Lib.hid (P06.out.below hkb)
      have P17 := Lib.hid (P16.out.below hkb)
      have U07 := Lib.hid (U06.out.below hkb)
      have U17 := Lib.hid (U16.out.below hkb)
      have W7 := Lib.hid (below_next W6.out hkb)
      clear hkb A6 Q6 X6 UB P06 P16 U06 U16 W6
      have qC := quietC (fun V (k : Below w7.heap.size w7 V) => wpAhead_c x b0 b1 i0 i1 _ _ j0 j1 V (P07.out.below k) (P17.out.below k) (U07.out.below k) (U17.out.below k))
      have qO := quietC (fun V (k : Below w7.heap.size w7 V) => CO.out V (below_next W7.out k))
      have qP := quietC (fun V (k : Below w7.heap.size w7 V) => CP.out V (below_next W7.out k))
      have rA := cellRe A7.out
      have rX := cellRe X7.out
      have rU := cellRe UB7.out
      go_wp2_with fail
      refine wp_region_quiet_below (by kernel_rfl) (by kernel_rfl) ?_
      repeat (go_big_quiet_step (first | with_reducible exact qC _ _ | with_reducible exact qO _ _ | with_reducible exact qP _ _))
      refine wpQuiet_nil ?_
      intro _ hw'
      obtain ⟨⟨dq, osq⟩, hw''⟩ := hw'
      subst hw''
      have hkb := below_regrown w7 dq osq
      obtain ⟨w8, hv7⟩ : ∃ V, V = Sort.grow (redrawn w7 dq) osq := ⟨_, rfl⟩
      rw [← hv7] at hkb ⊢
      clear hv7 qC qO qP rA rX rU
      have K9 := below_next K1.out (below_next W7.out hkb)
      go_wp2_with fail
      go_ret
      exact ⟨rfl, K9⟩
    | true =>
      refine wp_region_quiet_below (by kernel_rfl) (by kernel_rfl) ?_
      repeat (go_big_quiet_step (first | with_reducible exact qC _ _ | with_reducible exact qO _ _ | with_reducible exact qP _ _))
      refine wpQuiet_nil ?_
      intro _ hw'
      obtain ⟨⟨dq, osq⟩, hw''⟩ := hw'
      subst hw''
      have hkb := below_regrown w6 dq osq
      obtain ⟨w7, hv7⟩ : ∃ V, V = Sort.grow (redrawn w6 dq) osq := ⟨_, rfl⟩
      rw [← hv7] at hkb ⊢
      clear hv7 qC qO qP rA rX rU
      have A7 := Lib.hid (carryN hkb A6.out)
      have Q7 := Lib.hid (carryN hkb Q6.out)
      have X7 := Lib.hid (carryN hkb X6.out)
      have UB7 := Lib.hid (carryN hkb UB.out)
      have P07 := Lib.hid (P06.out.below hkb)
      have P17 := Lib.hid (P16.out.below hkb)
      have U07 := Lib.hid (U06.out.below hkb)
      have U17 := Lib.hid (U16.out.below hkb)
      have W7 := Lib.hid (below_next W6.out hkb)
      clear hkb A6 Q6 X6 UB P06 P16 U06 U16 W6
      have HZZ := Lib.hid HAB.out.symm
      cases b with
      | false =>
        have hxz : x = z := FN.out HZZ.out rfl
        subst hxz
        have cX := cell_of_block X7.out
        have lX := lt_of_block X7.out
        have cA := cell_of_block A7.out
        have lA := lt_of_block A7.out
        go_wp2_with fail
        refine (wpAhead_c x b0 b1 a0 a1 _ _ c0 c1 w7 P07.out P17.out (S0.out.below W7.out) (S1.out.below W7.out)).mono ?_
        rintro e w8 ⟨rfl, k8⟩
        clear cX lX cA lA
        go_wp2_with fail
        go_ret
        exact ⟨rfl, below_next K1.out (below_next W7.out k8)⟩
      | true =>
        obtain ⟨hx, hok, hbx, hgx, hsx, hcx⟩ := FY.out HZZ.out rfl
        injection hx with hx _
        rw [← hx] at hbx hgx hsx hcx
        have HBX := Lib.hid hbx
        have HGX := Lib.hid hgx
        have HSX := Lib.hid hsx
        have HCX := Lib.hid hcx
        have HGZ := Lib.hid (gameA_ok HZZ.out)
        have HR := Lib.hid (ok_good hok)
        have HLX2 := Lib.hid (show x.dn.length + x.wt.length ≤ 1048576 by rw [hx]; simp only [List.length_append, List.length_cons, List.length_nil]; have := HS.out; omega)
        clear hx hbx hgx hsx hcx hok
        obtain ⟨y, hy⟩ : ∃ y, y = gameA z := ⟨_, rfl⟩
        rw [← hy] at CG HGX HGZ HCX
        clear hy
        have CD := Lib.hid (fun (e0 e1 e2 : Option Addr) (f0 f1 f2 : Nat) V h0 h1 h2 => GameDoF_c y r e0 e1 e2 f0 f1 f2 V h0 h1 h2 (by have := gameB_lens4 HGZ.out; omega))
        rw [gameDo_yes HGZ.out HR.out] at CD
        obtain ⟨pd, hpd⟩ : ∃ pd, pd = doG y r := ⟨_, rfl⟩
        rw [← hpd] at CD HGX HCX
        obtain ⟨y', c2⟩ := pd
        simp only at CD HGX HCX
        clear hpd
        have cX := cell_of_block X7.out
        have lX := lt_of_block X7.out
        have cA := cell_of_block A7.out
        have lA := lt_of_block A7.out
        have cQ := cell_of_block Q7.out
        have lQ := lt_of_block Q7.out
        go_wp2_with fail
        refine wp_region_held_drew (S := fun w' => ((∀ b o, b < w7.heap.size → (w').cell? ⟨b, o, none⟩ = (w7).cell? ⟨b, o, none⟩) ∧ Below (w7.heap.size) (w7) (w'))) (by kernel_rfl) (KeptB.drew (KeptB.refl _ _)) (fun hHeld => ?_)
        refine introFin2 (X := Xs) 0 #[true, true, true, true, true, true, true, true, true, true] (fun x' T => (((((((((T).setIfInBounds 74 (.agg #[.slice a0 z.dn.length c0, .slice a1 z.wt.length c1, .int .i64 z.bk])).setIfInBounds 75 (x'.v0)).setIfInBounds 76 (.agg #[.int .i64 r.c, .int .i64 r.n, .int .i64 r.o, .int .i64 r.x, .int .i64 r.y])).setIfInBounds 77 (.tuple #[.agg #[.slice x'.a0 y'.es.length x'.c0, .slice x'.a1 y'.fl.length x'.c1, .slice x'.a2 y'.la.length x'.c2], .int .i64 c2])).setIfInBounds 73 (.tuple #[.agg #[.slice x'.a0 y'.es.length x'.c0, .slice x'.a1 y'.fl.length x'.c1, .slice x'.a2 y'.la.length x'.c2], .int .i64 c2])).setIfInBounds 78 (.agg #[.slice x'.a0 y'.es.length x'.c0, .slice x'.a1 y'.fl.length x'.c1, .slice x'.a2 y'.la.length x'.c2])).setIfInBounds 79 (.int .i64 c2)).setIfInBounds 9 (.pointer (some ⟨x'.x, 0, none⟩))).setIfInBounds 10 (.int .i64 c2)) (fun x' w' => (((∀ b o, b < w7.heap.size → (w').cell? ⟨b, o, none⟩ = (w7).cell? ⟨b, o, none⟩) ∧ Below (w7.heap.size) (w7) (w'))) ∧ w'.heap[x'.x]? = some (.cells #[.slice x'.a0 y'.es.length x'.c0, .slice x'.a1 y'.fl.length x'.c1, .slice x'.a2 y'.la.length x'.c2] 46 (0, 0)) ∧ w7.heap.size ≤ x'.x ∧ Own3 w' 0 x'.a0 x'.c0 x'.a1 x'.c1 x'.a2 x'.c2 y') ?_ (fun hfin => ?_)
        rotate_left
        · obtain ⟨wd, hwd, kwd⟩ : ∃ wd, wd = w7.drew ∧ Below w7.heap.size w7 wd := ⟨_, rfl, Below.drew (Below.refl _ _)⟩
          rw [← hwd] at hHeld ⊢
          clear hwd
          have RK := Lib.hid (KeptB.of kwd)
          clear kwd
          refine wpAnyH_take (i := 0) (oi := _) (v := ?_) (by (simp only [List.getElem?_toArray]; rfl)) (by kernel_rfl) (by kernel_rfl) (by kernel_rfl) (by exact fun _ _ _ h => h) (Or.inl ⟨by rfl, ?_⟩) (by assumption) ?_
          rotate_left
          · intro wS hSw
            go_simp
            all_goals first | with_reducible rfl | rw [if_neg (by omega)]
          simp only [Act.put, List.setIfInBounds_toArray, List.set]
          refine wpAnyH_take (i := 2) (oi := _) (v := ?_) (by (simp only [List.getElem?_toArray]; rfl)) (by kernel_rfl) (by kernel_rfl) (by kernel_rfl) (by exact fun _ _ _ h => h) (Or.inl ⟨by rfl, ?_⟩) (by assumption) ?_
          rotate_left
          · intro wS hSw
            go_simp
            all_goals first | with_reducible rfl | rw [if_neg (by omega)]
          simp only [Act.put, List.setIfInBounds_toArray, List.set]
          refine wpAnyH_ready (rs := [1, 7]) (by kernel_rfl) (by simp) ?_
          refine AllReadyH.cons (o := _) (by (simp only [List.getElem?_toArray]; rfl)) (fun K hK => ?_) ?_
          · skip
            go_simp
            refine (CG.out _ (below_next W7.out RK.out.2)).mono ?_
            rintro e wkGRK ⟨v, rfl, ov, kk⟩
            obtain ⟨e0, f0, e1, f1, e2, f2, rfl, o2⟩ := ov.rows
            clear ov
            have kGRK := Lib.hid (KeptB.next (Nat.le_refl _) RK.out kk)
            clear kk
            refine hK.out _ _ kGRK.out (fun hHeld => ?_)
            clear hK K hHeld
            try simp only [Act.put, List.setIfInBounds_toArray, List.set]
            refine wpAnyH_ready (rs := [3, 7]) (by kernel_rfl) (by simp) ?_
            refine AllReadyH.cons (o := _) (by (simp only [List.getElem?_toArray]; rfl)) (fun K hK => ?_) ?_
            · skip
              go_simp
              refine (CD.out e0 e1 e2 f0 f1 f2 _ (o2.e.sl five_len) (o2.f.sl int_len) (o2.l.sl int_len)).mono ?_
              clear o2
              rintro e wkDkGRK ⟨i0, i1, i2, rfl, o2, kk⟩
              have kDkGRK := Lib.hid (KeptB.next (Nat.le_refl _) kGRK.out kk)
              clear kk
              refine hK.out _ _ kDkGRK.out (fun hHeld => ?_)
              clear hK K hHeld
              try simp only [Act.put, List.setIfInBounds_toArray, List.set]
              refine wpAnyH_take (i := 4) (oi := _) (v := ?_) (by (simp only [List.getElem?_toArray]; rfl)) (by kernel_rfl) (by kernel_rfl) (by kernel_rfl) (by exact fun _ _ _ h => h) (Or.inl ⟨by rfl, ?_⟩) (by assumption) ?_
              rotate_left
              · intro wS hSw
                go_simp
                all_goals first | with_reducible rfl | rw [if_neg (by omega)]
              simp only [Act.put, List.setIfInBounds_toArray, List.set]
              refine wpAnyH_take (i := 5) (oi := _) (v := ?_) (by (simp only [List.getElem?_toArray]; rfl)) (by kernel_rfl) (by kernel_rfl) (by kernel_rfl) (by exact fun _ _ _ h => h) (Or.inl ⟨by rfl, ?_⟩) (by assumption) ?_
              rotate_left
              · intro wS hSw
                go_simp
                all_goals first | with_reducible rfl | rw [if_neg (by omega)]
              simp only [Act.put, List.setIfInBounds_toArray, List.set]
              refine wpAnyH_take (i := 6) (oi := _) (v := ?_) (by (simp only [List.getElem?_toArray]; rfl)) (by kernel_rfl) (by kernel_rfl) (by kernel_rfl) (by exact fun _ _ _ h => h) (Or.inl ⟨by rfl, ?_⟩) (by assumption) ?_
              rotate_left
              · intro wS hSw
                go_simp
                all_goals first | with_reducible rfl | rw [if_neg (by omega)]
              simp only [Act.put, List.setIfInBounds_toArray, List.set]
              refine wpAnyH_ready (rs := [7]) (by kernel_rfl) (by simp) ?_
              refine AllReadyH.cons (o := _) (by (simp only [List.getElem?_toArray]; rfl)) (fun K hK => ?_) AllReadyH.nil
              refine step_alloc (by rfl) (by rfl) (z := .agg #[.slice none 0 0, .slice none 0 0, .slice none 0 0]) (cs := #[.slice none 0 0, .slice none 0 0, .slice none 0 0]) (by kernel_rfl) rfl ?_
              obtain ⟨wAkDkGRK, hw', sw', hv, kw'⟩ := blocks1 wkDkGRK (.cells #[.slice none 0 0, .slice none 0 0, .slice none 0 0] 46)
              rw [← hw']
              clear hw' sw'
              have kAkDkGRK := Lib.hid (KeptB.next (Nat.le_refl _) kDkGRK.out kw')
              have hvx : w7.heap.size ≤ wkDkGRK.heap.size := kDkGRK.out.2.size
              replace o2 := o2.below kw'
              clear kw'
              refine hK.out _ _ kAkDkGRK.out (fun hHeld => ?_)
              clear hK K hHeld
              try simp only [Act.put, List.setIfInBounds_toArray, List.set]
              refine wpAnyH_ready (rs := [8]) (by kernel_rfl) (by simp) ?_
              refine AllReadyH.cons (o := _) (by (simp only [List.getElem?_toArray]; rfl)) (fun K hK => ?_) AllReadyH.nil
              have cv := cell_of_block hv
              have fv := unfrozen_of_block hv
              go_simp
              have kSkAkDkGRK := Lib.hid (KeptB.set (p := ⟨wkDkGRK.heap.size, 2, none⟩) hvx (.slice i2 y'.la.length y'.la.length) (KeptB.set (p := ⟨wkDkGRK.heap.size, 1, none⟩) hvx (.slice i1 y'.fl.length y'.fl.length) (KeptB.set (p := ⟨wkDkGRK.heap.size, 0, none⟩) hvx (.slice i0 y'.es.length y'.es.length) kAkDkGRK.out)))
              replace o2 := o2.set3 hv (.slice i0 y'.es.length y'.es.length) (.slice i1 y'.fl.length y'.fl.length) (.slice i2 y'.la.length y'.la.length)
              replace hv := block_set3 hv (.slice i0 y'.es.length y'.es.length) (.slice i1 y'.fl.length y'.fl.length) (.slice i2 y'.la.length y'.la.length)
              clear cv fv
              refine hK.out _ _ kSkAkDkGRK.out (fun hHeld => ?_)
              clear hK K hHeld
              try simp only [Act.put, List.setIfInBounds_toArray, List.set]
              refine wpAnyH_take (i := 9) (oi := _) (v := ?_) (by (simp only [List.getElem?_toArray]; rfl)) (by kernel_rfl) (by kernel_rfl) (by kernel_rfl) (by exact fun _ _ _ h => h) (Or.inl ⟨by rfl, ?_⟩) (by assumption) ?_
              rotate_left
              · intro wS hSw
                go_simp
                all_goals first | with_reducible rfl | rw [if_neg (by omega)]
              simp only [Act.put, List.setIfInBounds_toArray, List.set]
              refine hfin ⟨.agg #[.slice e0 y.es.length f0, .slice e1 y.fl.length f1, .slice e2 y.la.length f2], undef, undef, i0, i1, i2, y'.es.length, y'.fl.length, y'.la.length, wkDkGRK.heap.size⟩ _ _ _ (by kernel_rfl) ?_ ⟨kSkAkDkGRK.out, hv, hvx, o2.low (Nat.zero_le _)⟩
              simp only [List.setIfInBounds_toArray, List.set]
            refine AllReadyH.cons (o := _) (by (simp only [List.getElem?_toArray]; rfl)) (fun K hK => ?_) ?_
            · skip
              refine step_alloc (by rfl) (by rfl) (z := .agg #[.slice none 0 0, .slice none 0 0, .slice none 0 0]) (cs := #[.slice none 0 0, .slice none 0 0, .slice none 0 0]) (by kernel_rfl) rfl ?_
              obtain ⟨wAkGRK, hw', sw', hv, kw'⟩ := blocks1 wkGRK (.cells #[.slice none 0 0, .slice none 0 0, .slice none 0 0] 46)
              rw [← hw']
              clear hw' sw'
              have kAkGRK := Lib.hid (KeptB.next (Nat.le_refl _) kGRK.out kw')
              have hvx : w7.heap.size ≤ wkGRK.heap.size := kGRK.out.2.size
              replace o2 := o2.below kw'
              clear kw'
              refine hK.out _ _ kAkGRK.out (fun hHeld => ?_)
              clear hK K hHeld
              try simp only [Act.put, List.setIfInBounds_toArray, List.set]
              refine wpAnyH_ready (rs := [3]) (by kernel_rfl) (by simp) ?_
              refine AllReadyH.cons (o := _) (by (simp only [List.getElem?_toArray]; rfl)) (fun K hK => ?_) AllReadyH.nil
              go_simp
              refine (CD.out e0 e1 e2 f0 f1 f2 _ (o2.e.sl five_len) (o2.f.sl int_len) (o2.l.sl int_len)).mono ?_
              clear o2
              rintro e wkDkAkGRK ⟨i0, i1, i2, rfl, o2, kk⟩
              have kDkAkGRK := Lib.hid (KeptB.next (Nat.le_refl _) kAkGRK.out kk)
              replace hv := carryN kk hv
              clear kk
              refine hK.out _ _ kDkAkGRK.out (fun hHeld => ?_)
              clear hK K hHeld
              try simp only [Act.put, List.setIfInBounds_toArray, List.set]
              refine wpAnyH_take (i := 4) (oi := _) (v := ?_) (by (simp only [List.getElem?_toArray]; rfl)) (by kernel_rfl) (by kernel_rfl) (by kernel_rfl) (by exact fun _ _ _ h => h) (Or.inl ⟨by rfl, ?_⟩) (by assumption) ?_
              rotate_left
              · intro wS hSw
                go_simp
                all_goals first | with_reducible rfl | rw [if_neg (by omega)]
              simp only [Act.put, List.setIfInBounds_toArray, List.set]
              refine wpAnyH_take (i := 5) (oi := _) (v := ?_) (by (simp only [List.getElem?_toArray]; rfl)) (by kernel_rfl) (by kernel_rfl) (by kernel_rfl) (by exact fun _ _ _ h => h) (Or.inl ⟨by rfl, ?_⟩) (by assumption) ?_
              rotate_left
              · intro wS hSw
                go_simp
                all_goals first | with_reducible rfl | rw [if_neg (by omega)]
              simp only [Act.put, List.setIfInBounds_toArray, List.set]
              refine wpAnyH_take (i := 6) (oi := _) (v := ?_) (by (simp only [List.getElem?_toArray]; rfl)) (by kernel_rfl) (by kernel_rfl) (by kernel_rfl) (by exact fun _ _ _ h => h) (Or.inl ⟨by rfl, ?_⟩) (by assumption) ?_
              rotate_left
              · intro wS hSw
                go_simp
                all_goals first | with_reducible rfl | rw [if_neg (by omega)]
              simp only [Act.put, List.setIfInBounds_toArray, List.set]
              refine wpAnyH_ready (rs := [8]) (by kernel_rfl) (by simp) ?_
              refine AllReadyH.cons (o := _) (by (simp only [List.getElem?_toArray]; rfl)) (fun K hK => ?_) AllReadyH.nil
              have cv := cell_of_block hv
              have fv := unfrozen_of_block hv
              go_simp
              have kSkDkAkGRK := Lib.hid (KeptB.set (p := ⟨wkGRK.heap.size, 2, none⟩) hvx (.slice i2 y'.la.length y'.la.length) (KeptB.set (p := ⟨wkGRK.heap.size, 1, none⟩) hvx (.slice i1 y'.fl.length y'.fl.length) (KeptB.set (p := ⟨wkGRK.heap.size, 0, none⟩) hvx (.slice i0 y'.es.length y'.es.length) kDkAkGRK.out)))
              replace o2 := o2.set3 hv (.slice i0 y'.es.length y'.es.length) (.slice i1 y'.fl.length y'.fl.length) (.slice i2 y'.la.length y'.la.length)
              replace hv := block_set3 hv (.slice i0 y'.es.length y'.es.length) (.slice i1 y'.fl.length y'.fl.length) (.slice i2 y'.la.length y'.la.length)
              clear cv fv
              refine hK.out _ _ kSkDkAkGRK.out (fun hHeld => ?_)
              clear hK K hHeld
              try simp only [Act.put, List.setIfInBounds_toArray, List.set]
              refine wpAnyH_take (i := 9) (oi := _) (v := ?_) (by (simp only [List.getElem?_toArray]; rfl)) (by kernel_rfl) (by kernel_rfl) (by kernel_rfl) (by exact fun _ _ _ h => h) (Or.inl ⟨by rfl, ?_⟩) (by assumption) ?_
              rotate_left
              · intro wS hSw
                go_simp
                all_goals first | with_reducible rfl | rw [if_neg (by omega)]
              simp only [Act.put, List.setIfInBounds_toArray, List.set]
              refine hfin ⟨.agg #[.slice e0 y.es.length f0, .slice e1 y.fl.length f1, .slice e2 y.la.length f2], undef, undef, i0, i1, i2, y'.es.length, y'.fl.length, y'.la.length, wkGRK.heap.size⟩ _ _ _ (by kernel_rfl) ?_ ⟨kSkDkAkGRK.out, hv, hvx, o2.low (Nat.zero_le _)⟩
              simp only [List.setIfInBounds_toArray, List.set]
            exact AllReadyH.nil
          refine AllReadyH.cons (o := _) (by (simp only [List.getElem?_toArray]; rfl)) (fun K hK => ?_) ?_
          · skip
            refine step_alloc (by rfl) (by rfl) (z := .agg #[.slice none 0 0, .slice none 0 0, .slice none 0 0]) (cs := #[.slice none 0 0, .slice none 0 0, .slice none 0 0]) (by kernel_rfl) rfl ?_
            obtain ⟨wARK, hw', sw', hv, kw'⟩ := blocks1 wd (.cells #[.slice none 0 0, .slice none 0 0, .slice none 0 0] 46)
            rw [← hw']
            clear hw' sw'
            have kARK := Lib.hid (KeptB.next (Nat.le_refl _) RK.out kw')
            have hvx : w7.heap.size ≤ wd.heap.size := RK.out.2.size
            clear kw'
            refine hK.out _ _ kARK.out (fun hHeld => ?_)
            clear hK K hHeld
            try simp only [Act.put, List.setIfInBounds_toArray, List.set]
            refine wpAnyH_ready (rs := [1]) (by kernel_rfl) (by simp) ?_
            refine AllReadyH.cons (o := _) (by (simp only [List.getElem?_toArray]; rfl)) (fun K hK => ?_) AllReadyH.nil
            go_simp
            refine (CG.out _ (below_next W7.out kARK.out.2)).mono ?_
            rintro e wkGkARK ⟨v, rfl, ov, kk⟩
            obtain ⟨e0, f0, e1, f1, e2, f2, rfl, o2⟩ := ov.rows
            clear ov
            have kGkARK := Lib.hid (KeptB.next (Nat.le_refl _) kARK.out kk)
            replace hv := carryN kk hv
            clear kk
            refine hK.out _ _ kGkARK.out (fun hHeld => ?_)
            clear hK K hHeld
            try simp only [Act.put, List.setIfInBounds_toArray, List.set]
            refine wpAnyH_ready (rs := [3]) (by kernel_rfl) (by simp) ?_
            refine AllReadyH.cons (o := _) (by (simp only [List.getElem?_toArray]; rfl)) (fun K hK => ?_) AllReadyH.nil
            go_simp
            refine (CD.out e0 e1 e2 f0 f1 f2 _ (o2.e.sl five_len) (o2.f.sl int_len) (o2.l.sl int_len)).mono ?_
            clear o2
            rintro e wkDkGkARK ⟨i0, i1, i2, rfl, o2, kk⟩
            have kDkGkARK := Lib.hid (KeptB.next (Nat.le_refl _) kGkARK.out kk)
            replace hv := carryN kk hv
            clear kk
            refine hK.out _ _ kDkGkARK.out (fun hHeld => ?_)
            clear hK K hHeld
            try simp only [Act.put, List.setIfInBounds_toArray, List.set]
            refine wpAnyH_take (i := 4) (oi := _) (v := ?_) (by (simp only [List.getElem?_toArray]; rfl)) (by kernel_rfl) (by kernel_rfl) (by kernel_rfl) (by exact fun _ _ _ h => h) (Or.inl ⟨by rfl, ?_⟩) (by assumption) ?_
            rotate_left
            · intro wS hSw
              go_simp
              all_goals first | with_reducible rfl | rw [if_neg (by omega)]
            simp only [Act.put, List.setIfInBounds_toArray, List.set]
            refine wpAnyH_take (i := 5) (oi := _) (v := ?_) (by (simp only [List.getElem?_toArray]; rfl)) (by kernel_rfl) (by kernel_rfl) (by kernel_rfl) (by exact fun _ _ _ h => h) (Or.inl ⟨by rfl, ?_⟩) (by assumption) ?_
            rotate_left
            · intro wS hSw
              go_simp
              all_goals first | with_reducible rfl | rw [if_neg (by omega)]
            simp only [Act.put, List.setIfInBounds_toArray, List.set]
            refine wpAnyH_take (i := 6) (oi := _) (v := ?_) (by (simp only [List.getElem?_toArray]; rfl)) (by kernel_rfl) (by kernel_rfl) (by kernel_rfl) (by exact fun _ _ _ h => h) (Or.inl ⟨by rfl, ?_⟩) (by assumption) ?_
            rotate_left
            · intro wS hSw
              go_simp
              all_goals first | with_reducible rfl | rw [if_neg (by omega)]
            simp only [Act.put, List.setIfInBounds_toArray, List.set]
            refine wpAnyH_ready (rs := [8]) (by kernel_rfl) (by simp) ?_
            refine AllReadyH.cons (o := _) (by (simp only [List.getElem?_toArray]; rfl)) (fun K hK => ?_) AllReadyH.nil
            have cv := cell_of_block hv
            have fv := unfrozen_of_block hv
            go_simp
            have kSkDkGkARK := Lib.hid (KeptB.set (p := ⟨wd.heap.size, 2, none⟩) hvx (.slice i2 y'.la.length y'.la.length) (KeptB.set (p := ⟨wd.heap.size, 1, none⟩) hvx (.slice i1 y'.fl.length y'.fl.length) (KeptB.set (p := ⟨wd.heap.size, 0, none⟩) hvx (.slice i0 y'.es.length y'.es.length) kDkGkARK.out)))
            replace o2 := o2.set3 hv (.slice i0 y'.es.length y'.es.length) (.slice i1 y'.fl.length y'.fl.length) (.slice i2 y'.la.length y'.la.length)
            replace hv := block_set3 hv (.slice i0 y'.es.length y'.es.length) (.slice i1 y'.fl.length y'.fl.length) (.slice i2 y'.la.length y'.la.length)
            clear cv fv
            refine hK.out _ _ kSkDkGkARK.out (fun hHeld => ?_)
            clear hK K hHeld
            try simp only [Act.put, List.setIfInBounds_toArray, List.set]
            refine wpAnyH_take (i := 9) (oi := _) (v := ?_) (by (simp only [List.getElem?_toArray]; rfl)) (by kernel_rfl) (by kernel_rfl) (by kernel_rfl) (by exact fun _ _ _ h => h) (Or.inl ⟨by rfl, ?_⟩) (by assumption) ?_
            rotate_left
            · intro wS hSw
              go_simp
              all_goals first | with_reducible rfl | rw [if_neg (by omega)]
            simp only [Act.put, List.setIfInBounds_toArray, List.set]
            refine hfin ⟨.agg #[.slice e0 y.es.length f0, .slice e1 y.fl.length f1, .slice e2 y.la.length f2], undef, undef, i0, i1, i2, y'.es.length, y'.fl.length, y'.la.length, wd.heap.size⟩ _ _ _ (by kernel_rfl) ?_ ⟨kSkDkGkARK.out, hv, hvx, o2.low (Nat.zero_le _)⟩
            simp only [List.setIfInBounds_toArray, List.set]
          exact AllReadyH.nil
        rintro ⟨_, _, _, g0, g1, g2, l0, l1, l2, P⟩ w9 ⟨k9, VB, hx, o9⟩
        simp only at k9 VB hx o9 ⊢
        simp only [List.setIfInBounds_toArray, List.set]
        refine wpAnyH_done (by kernel_rfl) ?_ _
        have A9 := Lib.hid (carryN k9.2 A7.out)
        have X9 := Lib.hid (carryN k9.2 X7.out)
        have PB := Lib.hid VB
        have O9 := Lib.hid o9
        have W9 := Lib.hid (below_next W7.out k9.2)
        have P09 := Lib.hid (P07.out.below k9.2)
        have P19 := Lib.hid (P17.out.below k9.2)
        clear k9 VB hx o9 cX lX cA lA cQ lQ A7 Q7 X7 UB7 P07 P17 U07 U17 W7 CD hHeld
        have cX := cell_of_block X9.out
        have lX := lt_of_block X9.out
        go_wp2_with fail
        refine (AheadCodes_c x b0 b1 _ _ w9 P09.out P19.out HLX2.out).mono ?_
        rw [HCX.out]
        rintro e w10 ⟨ac, cc, rfl, rc, k10⟩
        obtain ⟨L, hL⟩ : ∃ L, L = (codesA z).length := ⟨_, rfl⟩
        have hLx : (codesA z ++ [c2]).length = L + 1 := by rw [List.length_append, hL]; rfl
        have HCC := Lib.hid rc.len
        have hcm := rc.max
        unfold maxLen at hcm
        obtain ⟨g, hgc, -, hgl, hcc, -, -⟩ := rc.intAt (i := L) (by omega)
        have hlast : (codesA z ++ [c2])[L]'(by omega) = c2 := by simp [hL]
        rw [hlast] at hcc
        rw [hLx] at HCC ⊢
        have hlc' := HCC.out
        clear hlast rc hLx hL
        subst hgc
        have hL0 : (0 : Int) ≤ (L : Int) := by omega
        have hL1 : (L : Int) < ((L + 1 : Nat) : Int) := by omega
        have hw1 : IntKind.i64.wrap (((L + 1 : Nat) : Int) - 1) = (L : Int) := by
          have : (((L + 1 : Nat) : Int) - 1) = (L : Int) := by omega
          rw [this]
          exact IntWalk.i64_in _ ⟨by omega, by omega⟩
        have hw2 : IntKind.i64.wrap (L : Int) = (L : Int) := IntWalk.i64_in _ ⟨by omega, by omega⟩
        have hL2 : (L : Int) < (L : Int) + 1 := by omega
        have A10 := Lib.hid (carryN k10 A9.out)
        have X10 := Lib.hid (carryN k10 X9.out)
        have PB10 := Lib.hid (carryN k10 PB.out)
        have O10 := Lib.hid (O9.out.below k10)
        have W10 := Lib.hid (below_next W9.out k10)
        have P010 := Lib.hid (P09.out.below k10)
        have P110 := Lib.hid (P19.out.below k10)
        clear k10 A9 X9 PB O9 W9 P09 P19 cX lX
        have cX := cell_of_block X10.out
        have lX := lt_of_block X10.out
        have cA := cell_of_block A10.out
        have lA := lt_of_block A10.out
        have cP := cell_of_block PB10.out
        have lP := lt_of_block PB10.out
        have CXO := Lib.hid (fun V (k : Below w10.heap.size w10 V) => AheadOk_c x b0 b1 _ _ V (P010.out.below k) (P110.out.below k) HLX2.out)
        rw [HBX.out] at CXO
        have CXG := Lib.hid (fun V (k : Below w10.heap.size w10 V) => AheadGame_c x b0 b1 _ _ V (P010.out.below k) (P110.out.below k) HLX2.out)
        rw [HGX.out] at CXG
        have CXS := Lib.hid (fun V (k : Below w10.heap.size w10 V) => AheadSure_c x b0 b1 _ _ V (P010.out.below k) (P110.out.below k) HLX2.out)
        rw [HSX.out] at CXS
        obtain ⟨su, hsu⟩ : ∃ su, su = sureA z := ⟨_, rfl⟩
        rw [← hsu] at CXS CU
        clear hsu
        go_wp2_with fail
        refine wp_region_held_drew (S := fun w' => ((∀ b o, b < w10.heap.size → (w').cell? ⟨b, o, none⟩ = (w10).cell? ⟨b, o, none⟩) ∧ Below (w10.heap.size) (w10) (w'))) (by kernel_rfl) (KeptB.drew (KeptB.refl _ _)) (fun hHeld => ?_)
        refine wpAnyH_take (i := 0) (oi := _) (v := ?_) (by (simp only [List.getElem?_toArray]; rfl)) (by kernel_rfl) (by kernel_rfl) (by kernel_rfl) (by exact fun _ _ _ h => h) (Or.inl ⟨by rfl, ?_⟩) (by assumption) ?_
        rotate_left
        · intro wS hSw
          go_simp
          all_goals first | with_reducible rfl | rw [if_neg (by omega)]
        simp only [Act.put, List.setIfInBounds_toArray, List.set]
        have t0 := Lib.hid (KeptB.drew (KeptB.refl w10.heap.size w10))
        clear hHeld
        refine wpAnyH_ready (rs := [1]) (by kernel_rfl) (by simp) ?_
        refine AllReadyH.cons (o := _) (by (simp only [List.getElem?_toArray]; rfl)) (fun K hK => ?_) AllReadyH.nil
        go_simp
        refine (CXO.out _ t0.out.2).mono ?_
        rintro e u1 ⟨rfl, kk⟩
        have t1 := Lib.hid (KeptB.next (Nat.le_refl _) t0.out kk)
        clear kk
        refine hK.out _ _ t1.out (fun hHeld => ?_)
        clear hK K
        try simp only [Act.put, List.setIfInBounds_toArray, List.set]
        refine wpAnyH_take (i := 2) (oi := _) (v := ?_) (by (simp only [List.getElem?_toArray]; rfl)) (by kernel_rfl) (by kernel_rfl) (by kernel_rfl) (by exact fun _ _ _ h => h) (Or.inl ⟨by rfl, ?_⟩) (by assumption) ?_
        rotate_left
        · intro wS hSw
          go_simp
          all_goals first | with_reducible rfl | rw [if_neg (by omega)]
        simp only [Act.put, List.setIfInBounds_toArray, List.set]
        refine wpAnyH_take (i := 3) (oi := _) (v := ?_) (by (simp only [List.getElem?_toArray]; rfl)) (by kernel_rfl) (by kernel_rfl) (by kernel_rfl) (by exact fun _ _ _ h => h) (Or.inl ⟨by rfl, ?_⟩) (by assumption) ?_
        rotate_left
        · intro wS hSw
          go_simp
          all_goals first | with_reducible rfl | rw [if_neg (by omega)]
        simp only [Act.put, List.setIfInBounds_toArray, List.set]
        refine wpAnyH_take (i := 5) (oi := _) (v := ?_) (by (simp only [List.getElem?_toArray]; rfl)) (by kernel_rfl) (by kernel_rfl) (by kernel_rfl) (by exact fun _ _ _ h => h) (Or.inl ⟨by rfl, ?_⟩) (by assumption) ?_
        rotate_left
        · intro wS hSw
          go_simp
          all_goals first | with_reducible rfl | rw [if_neg (by omega)]
        simp only [Act.put, List.setIfInBounds_toArray, List.set]
        clear hHeld
        refine wpAnyH_ready (rs := [4]) (by kernel_rfl) (by simp) ?_
        refine AllReadyH.cons (o := _) (by (simp only [List.getElem?_toArray]; rfl)) (fun K hK => ?_) AllReadyH.nil
        go_simp
        refine (CXG.out _ t1.out.2).mono ?_
        rintro e u2 ⟨v1, rfl, ov1, kk⟩
        obtain ⟨p0, q0, p1, q1, p2, q2, rfl, o1⟩ := ov1.rows
        have t2 := Lib.hid (KeptB.next (Nat.le_refl _) t1.out kk)
        have Q1 := Lib.hid o1
        clear kk ov1 o1
        refine hK.out _ _ t2.out (fun hHeld => ?_)
        clear hK K
        try simp only [Act.put, List.setIfInBounds_toArray, List.set]
        clear hHeld
        refine wpAnyH_ready (rs := [6]) (by kernel_rfl) (by simp) ?_
        refine AllReadyH.cons (o := _) (by (simp only [List.getElem?_toArray]; rfl)) (fun K hK => ?_) AllReadyH.nil
        go_simp
        refine (wpGame_c y' p0 p1 p2 g0 g1 g2 _ _ _ q0 q1 q2 _ _ _ _ (Q1.out.e.sl five_len) (Q1.out.f.sl int_len) (Q1.out.l.sl int_len) ((O10.out.below t2.out.2).e.sl five_len) ((O10.out.below t2.out.2).f.sl int_len) ((O10.out.below t2.out.2).l.sl int_len)).mono ?_
        rintro e u3 ⟨rfl, kk⟩
        have t3 := Lib.hid (KeptB.next (Nat.le_refl _) t2.out kk)
        clear kk Q1
        refine hK.out _ _ t3.out (fun hHeld => ?_)
        clear hK K
        try simp only [Act.put, List.setIfInBounds_toArray, List.set]
        refine wpAnyH_take (i := 7) (oi := _) (v := ?_) (by (simp only [List.getElem?_toArray]; rfl)) (by kernel_rfl) (by kernel_rfl) (by kernel_rfl) (by exact fun _ _ _ h => h) (Or.inl ⟨by rfl, ?_⟩) (by assumption) ?_
        rotate_left
        · intro wS hSw
          go_simp
          all_goals first | with_reducible rfl | rw [if_neg (by omega)]
        simp only [Act.put, List.setIfInBounds_toArray, List.set]
        refine wpAnyH_take (i := 8) (oi := _) (v := ?_) (by (simp only [List.getElem?_toArray]; rfl)) (by kernel_rfl) (by kernel_rfl) (by kernel_rfl) (by exact fun _ _ _ h => h) (Or.inl ⟨by rfl, ?_⟩) (by assumption) ?_
        rotate_left
        · intro wS hSw
          go_simp
          all_goals first | with_reducible rfl | rw [if_neg (by omega)]
        simp only [Act.put, List.setIfInBounds_toArray, List.set]
        refine wpAnyH_take (i := 9) (oi := _) (v := ?_) (by (simp only [List.getElem?_toArray]; rfl)) (by kernel_rfl) (by kernel_rfl) (by kernel_rfl) (by exact fun _ _ _ h => h) (Or.inl ⟨by rfl, ?_⟩) (by assumption) ?_
        rotate_left
        · intro wS hSw
          go_simp
          all_goals first | with_reducible rfl | rw [if_neg (by omega)]
        simp only [Act.put, List.setIfInBounds_toArray, List.set]
        refine wpAnyH_take (i := 11) (oi := _) (v := ?_) (by (simp only [List.getElem?_toArray]; rfl)) (by kernel_rfl) (by kernel_rfl) (by kernel_rfl) (by exact fun _ _ _ h => h) (Or.inl ⟨by rfl, ?_⟩) (by assumption) ?_
        rotate_left
        · intro wS hSw
          go_simp
          all_goals first | with_reducible rfl | rw [if_neg (by omega)]
        simp only [Act.put, List.setIfInBounds_toArray, List.set]
        clear hHeld
        refine wpAnyH_ready (rs := [10]) (by kernel_rfl) (by simp) ?_
        refine AllReadyH.cons (o := _) (by (simp only [List.getElem?_toArray]; rfl)) (fun K hK => ?_) AllReadyH.nil
        go_simp
        refine (CXS.out _ t3.out.2).mono ?_
        rintro e u4 ⟨v1, rfl, ov1, kk⟩
        obtain ⟨p0, q0, p1, q1, p2, q2, rfl, o1⟩ := ov1.rows
        have t4 := Lib.hid (KeptB.next (Nat.le_refl _) t3.out kk)
        have Q1 := Lib.hid o1
        clear kk ov1 o1
        refine hK.out _ _ t4.out (fun hHeld => ?_)
        clear hK K
        try simp only [Act.put, List.setIfInBounds_toArray, List.set]
        clear hHeld
        refine wpAnyH_ready (rs := [12]) (by kernel_rfl) (by simp) ?_
        refine AllReadyH.cons (o := _) (by (simp only [List.getElem?_toArray]; rfl)) (fun K hK => ?_) AllReadyH.nil
        go_simp
        refine (CU.out _ (below_next W10.out t4.out.2)).mono ?_
        rintro e u5 ⟨v1, rfl, ov1, kk⟩
        obtain ⟨m0, n0, m1, n1, m2, n2, rfl, o1⟩ := ov1.rows
        have t5 := Lib.hid (KeptB.next (Nat.le_refl _) t4.out kk)
        have Q2 := Lib.hid o1
        have Q15 := Lib.hid (Q1.out.below kk)
        clear kk ov1 o1 Q1
        refine hK.out _ _ t5.out (fun hHeld => ?_)
        clear hK K
        try simp only [Act.put, List.setIfInBounds_toArray, List.set]
        clear hHeld
        refine wpAnyH_ready (rs := [13]) (by kernel_rfl) (by simp) ?_
        refine AllReadyH.cons (o := _) (by (simp only [List.getElem?_toArray]; rfl)) (fun K hK => ?_) AllReadyH.nil
        go_simp
        refine (wpGame_c su p0 p1 p2 m0 m1 m2 _ _ _ q0 q1 q2 n0 n1 n2 _ (Q15.out.e.sl five_len) (Q15.out.f.sl int_len) (Q15.out.l.sl int_len) (Q2.out.e.sl five_len) (Q2.out.f.sl int_len) (Q2.out.l.sl int_len)).mono ?_
        rintro e u6 ⟨rfl, kk⟩
        have t6 := Lib.hid (KeptB.next (Nat.le_refl _) t5.out kk)
        clear kk Q15 Q2
        refine hK.out _ _ t6.out (fun hHeld => ?_)
        clear hK K
        try simp only [Act.put, List.setIfInBounds_toArray, List.set]
        refine wpAnyH_take (i := 14) (oi := _) (v := ?_) (by (simp only [List.getElem?_toArray]; rfl)) (by kernel_rfl) (by kernel_rfl) (by kernel_rfl) (by exact fun _ _ _ h => h) (Or.inl ⟨by rfl, ?_⟩) (by assumption) ?_
        rotate_left
        · intro wS hSw
          go_simp
          all_goals first | with_reducible rfl | rw [if_neg (by omega)]
        simp only [Act.put, List.setIfInBounds_toArray, List.set]
        refine wpAnyH_take (i := 15) (oi := _) (v := ?_) (by (simp only [List.getElem?_toArray]; rfl)) (by kernel_rfl) (by kernel_rfl) (by kernel_rfl) (by exact fun _ _ _ h => h) (Or.inl ⟨by rfl, ?_⟩) (by assumption) ?_
        rotate_left
        · intro wS hSw
          go_simp
          all_goals first | with_reducible rfl | rw [if_neg (by omega)]
        simp only [Act.put, List.setIfInBounds_toArray, List.set]
        refine wpAnyH_take (i := 16) (oi := _) (v := ?_) (by (simp only [List.getElem?_toArray]; rfl)) (by kernel_rfl) (by kernel_rfl) (by kernel_rfl) (by exact fun _ _ _ h => h) (Or.inl ⟨by rfl, ?_⟩) (by assumption) ?_
        rotate_left
        · intro wS hSw
          go_simp
          all_goals first | with_reducible rfl | rw [if_neg (by omega)]
        simp only [Act.put, List.setIfInBounds_toArray, List.set]
        refine wpAnyH_take (i := 17) (oi := _) (v := ?_) (by (simp only [List.getElem?_toArray]; rfl)) (by kernel_rfl) (by kernel_rfl) (by kernel_rfl) (by exact fun _ _ _ h => h) (Or.inl ⟨by rfl, ?_⟩) (by assumption) ?_
        rotate_left
        · intro wS hSw
          go_simp
          all_goals first | with_reducible rfl | rw [if_neg (by omega)]
        simp only [Act.put, List.setIfInBounds_toArray, List.set]
        refine wpAnyH_take (i := 18) (oi := _) (v := ?_) (by (simp only [List.getElem?_toArray]; rfl)) (by kernel_rfl) (by kernel_rfl) (by kernel_rfl) (by exact fun _ _ _ h => h) (Or.inl ⟨by rfl, ?_⟩) (by assumption) ?_
        rotate_left
        · intro wS hSw
          go_simp
          all_goals first | with_reducible rfl | rw [if_neg (by omega)]
        simp only [Act.put, List.setIfInBounds_toArray, List.set]
        refine wpAnyH_take (i := 19) (oi := _) (v := ?_) (by (simp only [List.getElem?_toArray]; rfl)) (by kernel_rfl) (by kernel_rfl) (by kernel_rfl) (by exact fun _ _ _ h => h) (Or.inl ⟨by rfl, ?_⟩) (by assumption) ?_
        rotate_left
        · intro wS hSw
          go_simp
          all_goals first | with_reducible rfl | rw [if_neg (by omega)]
        simp only [Act.put, List.setIfInBounds_toArray, List.set]
        refine wpAnyH_take (i := 20) (oi := _) (v := ?_) (by (simp only [List.getElem?_toArray]; rfl)) (by kernel_rfl) (by kernel_rfl) (by kernel_rfl) (by exact fun _ _ _ h => h) (Or.inl ⟨by rfl, ?_⟩) (by assumption) ?_
        rotate_left
        · intro wS hSw
          go_simp
          all_goals first | with_reducible rfl | rw [if_neg (by omega)]
        simp only [Act.put, List.setIfInBounds_toArray, List.set]
        refine wpAnyH_take (i := 21) (oi := _) (v := ?_) (by (simp only [List.getElem?_toArray]; rfl)) (by kernel_rfl) (by kernel_rfl) (by kernel_rfl) (by exact fun _ _ _ h => h) (Or.inl ⟨by rfl, ?_⟩) (by assumption) ?_
        rotate_left
        · intro wS hSw
          go_simp
          all_goals first | with_reducible rfl | rw [if_neg (by omega)]
        simp only [Act.put, List.setIfInBounds_toArray, List.set]
        refine wpAnyH_take (i := 22) (oi := _) (v := ?_) (by (simp only [List.getElem?_toArray]; rfl)) (by kernel_rfl) (by kernel_rfl) (by kernel_rfl) (by exact fun _ _ _ h => h) (Or.inl ⟨by rfl, ?_⟩) (by assumption) ?_
        rotate_left
        · intro wS hSw
          go_simp
          all_goals first | with_reducible rfl | rw [if_neg (by omega)]
        simp only [Act.put, List.setIfInBounds_toArray, List.set]
        refine wpAnyH_take (i := 23) (oi := _) (v := ?_) (by (simp only [List.getElem?_toArray]; rfl)) (by kernel_rfl) (by kernel_rfl) (by kernel_rfl) (by exact fun _ _ _ h => h) (Or.inl ⟨by rfl, ?_⟩) (by assumption) ?_
        rotate_left
        · intro wS hSw
          go_simp
          all_goals first | with_reducible rfl | rw [if_neg (by omega)]
        simp only [Act.put, List.setIfInBounds_toArray, List.set]
        refine wpAnyH_take (i := 24) (oi := _) (v := ?_) (by (simp only [List.getElem?_toArray]; rfl)) (by kernel_rfl) (by kernel_rfl) (by kernel_rfl) (by exact fun _ _ _ h => h) (Or.inl ⟨by rfl, ?_⟩) (by assumption) ?_
        rotate_left
        · intro wS hSw
          go_simp
          all_goals first | with_reducible rfl | rw [if_neg (by omega)]
        simp only [Act.put, List.setIfInBounds_toArray, List.set]
        refine wpAnyH_take (i := 25) (oi := _) (v := ?_) (by (simp only [List.getElem?_toArray]; rfl)) (by kernel_rfl) (by kernel_rfl) (by kernel_rfl) (by exact fun _ _ _ h => h) (Or.inl ⟨by rfl, ?_⟩) (by assumption) ?_
        rotate_left
        · intro wS hSw
          go_simp
          all_goals first | with_reducible rfl | rw [if_neg (by omega)]
        simp only [Act.put, List.setIfInBounds_toArray, List.set]
        refine wpAnyH_done (by kernel_rfl) ?_ _
        have K9 := Lib.hid (below_next K1.out (below_next W10.out t6.out.2))
        clear t0 t1 t2 t3 t4 t5 t6 cA lA cX lX cP lP hHeld
        go_wp2_with fail
        go_ret
        exact ⟨rfl, K9.out⟩
end Go.Proofs.Ytofedboeggdkaaa.fnAheadPush

/-! FnAheadPush: the law returns true for every input; no condition. -/
namespace Go.Proofs.Ytofedboeggdkaaa.fnAheadPush
open Go.ChangeShapes hiding open_int
open Go.WideShapes Go.ChangeAt Go.RowKit
open Go.ChangeMaps (shut_string)
set_option linter.unusedVariables false

theorem own : ownKnob Try.prog.godebug = none := by kernel_rfl
theorem laidOut : laidOutB Try.prog = true := by kernel_rfl

set_option maxRecDepth 100000 in
theorem lifted (os : Os) (started : os.Started) (H : Type) (enc : TypeId × Value → H) :
    ReturnsInHanded {} Try.checked os 5 .any (Rows.fnAheadPushSpec.pre6 enc Try.prog Try.f5 Rows.fnAheadPushRow.domain false) (Rows.fnAheadPushSpec.post enc Try.prog Try.f5 false true false false) := by
  refine returnsInHanded_of_change (C := Try.checked) own started (by kernel_rfl) Try.func5
    (ChangeSpec.witness6 (enc := enc) (C := Try.checked) false ⟨#[], #[.slice none 0 0], []⟩ 8 (by kernel_rfl) (by kernel_rfl) (by kernel_rfl) (by kernel_rfl)) ?_
  intro W base args ds gs before hval0 hW hcnd _
  have hval : ∀ (j : Nat) t v, Try.f5.params[j]? = some t → args[j]? = some v → Value.okWide Try.prog W .any base t v := hval0
  have hW' := hW
  obtain ⟨p, q, hA0, hV, rfl, hfz, hnd⟩ := hW
  have hA : DataW.TrodAll enc Try.prog W 0 (fun _ => true) true Try.f5.params.toList args.toList ds p := hA0
  rw [Try.params5] at hA hval
  obtain ⟨v0, vs0, d0, ds0, p0, q0, hargs, rfl, rfl, h0, r0⟩ := trodAll_cons hA
  obtain ⟨rfl, rfl, rfl⟩ := trodAll_nil r0
  obtain rfl : args = #[v0] := by cases args; simp_all
  obtain ⟨rfl, rfl⟩ := trodVars_none hV
  have lt0 : ∀ x ∈ p0, x.block < W.heap.size := by obtain ⟨m, hm⟩ := h0; exact DataW.trod_lt m _ _ _ hm
  obtain ⟨z0, o0⟩ := open_bytes (hval 0 39 v0 rfl rfl) h0
  clear hA0 hval0
  refine (walk v0 z0 W o0).mono fun e W' ⟨he, bel⟩ => ?_
  subst he
  exact ⟨_, rfl, _, _, _, [], _, [], hW', trodAll_mk1 (shut_bool Try.underlying4 _), (trodAll_cons_mk (Below.trod laidOut (by kernel_rfl) (of_decide_eq_true (by kernel_rfl)) h0 bel lt0) trodAll_mk0), rfl, bel.frame _, fun h => by cases h⟩

theorem over : Rows.fnAheadPushRow.holds Try.pinned (OpenSpec.ofChange Rows.fnAheadPushSpec) :=
  OpenClaim.holds_of_wide 5 Try.f5 rfl rfl rfl rfl rfl rfl rfl ⟨rfl, rfl, rfl, rfl, rfl⟩ rfl rfl rfl rfl rfl (by kernel_rfl) Try.func5 (by kernel_rfl)
    (of_decide_eq_true (by kernel_rfl)) (by unfold Func.isWrapper; first | (rw [if_pos (by decide +kernel)]; kernel_rfl) | (rw [if_neg (by decide +kernel)]; exact ⟨rfl, rfl⟩))
    (fun os started H enc _ => lifted os started H enc)

theorem proved : Rows.FnAheadPushSaid := over
end Go.Proofs.Ytofedboeggdkaaa.fnAheadPush
