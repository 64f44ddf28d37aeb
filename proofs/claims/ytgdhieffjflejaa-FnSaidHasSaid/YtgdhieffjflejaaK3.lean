/- A keeper that says yes (l5Yes); condition: small sizes. -/
import Derived.Test.YtgdhieffjflejaaK2
set_option linter.unusedSimpArgs false
set_option linter.unusedVariables false
namespace Go.Proofs.Ytgdhieffjflejaa
open Go.RowKit Go.Joins

set_option maxRecDepth 100000 in
set_option maxHeartbeats 16000000 in
theorem l5Yes_c (X : Nat → Prop) (T D : Nat) (r : Rk) (c : Cl) (w : World) (h : Rob X r.ok w) (hf : r.fit T D) (hX : ∀ b, X b → b < w.heap.size) (hT : T ≤ 999999) :
    Calls Try.prog 105 #[.agg #[.int .i64 r.me, .int .i64 r.view, .bool r.live, .int .i64 r.nx, .slice r.ta r.tk.length r.tc, .slice r.ha r.hd.length r.hc, .slice r.da r.dn.length r.dc], .agg #[.int .i64 c.s, .int .i64 c.v, .int .i64 c.r.c, .int .i64 c.r.n, .int .i64 c.r.o, .int .i64 c.r.x, .int .i64 c.r.y]] w (KeepSays X (T + 1) D 1 w) := by
  have HO := Lib.hid h
  have HF := Lib.hid hf
  clear h hf
  go_enter Try.func105, Try.ntmps105
  go_upto_region 1 with fail
  obtain ⟨W, hW_, sW, x, y, z, kW⟩ := blocks3 w (.cells #[.int .i64 r.me, .int .i64 r.view, .bool r.live, .int .i64 r.nx, .slice r.ta r.tk.length r.tc, .slice r.ha r.hd.length r.hc, .slice r.da r.dn.length r.dc] 78) (.cells #[.int .i64 c.s, .int .i64 c.v, .int .i64 c.r.c, .int .i64 c.r.n, .int .i64 c.r.o, .int .i64 c.r.x, .int .i64 c.r.y] 62) (.cells #[.int .i64 0, .int .i64 0, .bool false, .int .i64 0, .slice none 0 0, .slice none 0 0, .slice none 0 0] 78)
  rw [← hW_]
  clear hW_
  have hsW : w.heap.size + 3 ≤ W.heap.size := by omega
  obtain ⟨X1, hlt, hin, hsub, hbx⟩ : ∃ X1 : Nat → Prop, (∀ b, X1 b → b < W.heap.size) ∧ (∀ b, w.heap.size ≤ b → b < W.heap.size → X1 b) ∧ (∀ b, X b → X1 b) ∧ ∀ F : World → Prop, Rob X F w → Rob X1 F W :=
    ⟨Bx X w.heap.size W.heap.size, Bx.lt hX (by omega), fun b h1 h2 => .inr ⟨h1, h2⟩, fun b hb => .inl hb, fun F hF => hF.box kW _⟩
  clear sW
  have cx := cell_of_block x
  have fx := unfrozen_of_block x
  have lx := lt_of_block x
  have cy := cell_of_block y
  have fy := unfrozen_of_block y
  have ly := lt_of_block y
  have cz := cell_of_block z
  have fz := unfrozen_of_block z
  have lz := lt_of_block z
  go_wp2_with fail
  refine (l5Take_c X1 T D r c W (hbx _ HO.out) HF.out hlt (by omega)).mono ?_
  rintro e w1 ⟨r1, rfl, hr1, hf1, k1⟩
  clear cx fx lx cy fy ly cz fz lz
  have hl3_ : w.heap.size + 2 < W.heap.size := by omega
  replace x := carryB k1 (by omega) x
  replace y := carryB k1 (by omega) y
  replace z := carryB k1 hl3_ z
  have K1 := below_next kW k1
  have hs1 : W.heap.size ≤ w1.heap.size := k1.size
  have R1 := Lib.hid hr1
  have F1 := Lib.hid hf1
  clear hr1 hf1 k1 kW hl3_ hbx
  have cx := cell_of_block x
  have fx := unfrozen_of_block x
  have lx := lt_of_block x
  have cy := cell_of_block y
  have fy := unfrozen_of_block y
  have ly := lt_of_block y
  have cz := cell_of_block z
  have fz := unfrozen_of_block z
  have lz := lt_of_block z
  go_upto_region 2 with fail
  obtain ⟨V, hV_, sV, xV, oV, kV⟩ := stored7 w1 w.heap.size _ _ _ _ _ _ _ (.int .i64 r1.me) (.int .i64 r1.view) (.bool r1.live) (.int .i64 r1.nx) (.slice r1.ta r1.tk.length r1.tc) (.slice r1.ha r1.hd.length r1.hc) (.slice r1.da r1.dn.length r1.dc) x
  rw [← hV_]
  clear hV_
  have yV := (oV _ (by omega)).trans y
  have zV := (oV _ (by omega)).trans z
  replace R1 := Lib.hid (R1.out.stored sV oV (hin _ (by omega) (by omega)))
  have KV := K1.trans (kV.mono (by omega))
  have hsV : W.heap.size ≤ V.heap.size := by omega
  clear cx fx lx cy fy ly cz fz lz
  clear x y z oV kV sV K1 hs1
  have cS := quietC (w := V) (fun U _ => l3Leader_c c.v U)
  have ex := cellRe xV
  have ey := cellRe yV
  obtain ⟨q1, h1⟩ : ∃ q, (leadN c.v == r1.me) = q := ⟨_, rfl⟩
  refine wp_region_quiet_below (by kernel_rfl) (by kernel_rfl) ?_
  repeat (go_big_quiet_step (with_reducible exact cS _ _))
  refine wpQuiet_nil ?_
  intro _ hw'
  obtain ⟨⟨dq, osq⟩, hw''⟩ := hw'
  subst hw''
  have kq := below_regrown V dq osq
  clear ex ey cS
  generalize Sort.grow (redrawn V dq) osq = U at *
  have lxV := lt_of_block xV
  have lyV := lt_of_block yV
  have lzV := lt_of_block zV
  replace xV := carryB kq lxV xV
  replace yV := carryB kq lyV yV
  replace zV := carryB kq lzV zV
  replace R1 := Lib.hid (R1.out.below kq)
  have KU := below_next KV kq
  have hsU : W.heap.size ≤ U.heap.size := Nat.le_trans hsV kq.size
  clear lxV lyV lzV KV kq hsV
  have cxV := cell_of_block xV
  have fxV := unfrozen_of_block xV
  have lxV := lt_of_block xV
  have cyV := cell_of_block yV
  have fyV := unfrozen_of_block yV
  have lyV := lt_of_block yV
  have czV := cell_of_block zV
  have fzV := unfrozen_of_block zV
  have lzV := lt_of_block zV
  cases q1 with
  | true =>
    go_wp2_with fail
    refine bodyPost_ret (v := .tuple #[.agg #[.int .i64 r1.me, .int .i64 r1.view, .bool r1.live, .int .i64 r1.nx, .slice r1.ta r1.tk.length r1.tc, .slice r1.ha r1.hd.length r1.hc, .slice r1.da r1.dn.length r1.dc], .slice none 0 0]) (by simp [results, Try.results105, go_sem, czV]) rfl ?_
    refine ⟨r1, none, 0, [], rfl, Rob.weak (X := X1) ?_ hsub, F1.out, fun V' _ => isMs_nil _ _ _ (Nat.zero_le _), (fun z hz => nomatch hz), Nat.zero_le _, (by repeat' (first | with_reducible exact Below.refl _ _ | with_reducible assumption | with_reducible refine Below.alloc ?_ ?_ _ | with_reducible refine Below.drew ?_ | with_reducible refine Below.setCell ?_ ?_ _ | omega | (simp; omega) | (simp; done)))⟩
    have hR := R1.out
    repeat' (first | with_reducible exact hR | refine Rob.setX ?_ (hin _ (by simp only; omega) (by simp only; omega)) _)
  | false =>
    go_upto_region 5 with fail
    obtain ⟨M, hM_, sM, m, kM⟩ := blocks1 U (.cells #[.int .i64 3, .int .i64 r1.me, .int .i64 c.v, .int .i64 c.s, .int .i64 c.r.c, .int .i64 c.r.n, .int .i64 c.r.o, .int .i64 c.r.x, .int .i64 c.r.y, .slice none 0 0, .slice none 0 0] 34)
    rw [← hM_]
    clear hM_
    clear cxV fxV lxV cyV fyV lyV czV fzV lzV
    have x := carryB kM (by omega) xV
    have z := carryB kM (by omega) zV
    have hsM : W.heap.size ≤ M.heap.size := Nat.le_trans hsU kM.size
    have KM := Lib.hid (below_next KU kM)
    replace R1 := Lib.hid (R1.out.below kM)
    have hBW := Nat.le_refl M.heap.size
    clear xV yV zV KU kM sM
    have hne_ : ¬ (U.heap.size = w.heap.size + 1 + 1) := by omega
    have hne0_ : ¬ (w.heap.size = w.heap.size + 1 + 1) := by omega
    have cx := cell_of_block x
    have fx := unfrozen_of_block x
    have lx := lt_of_block x
    have cm := cell_of_block m
    have fm := unfrozen_of_block m
    have lm := lt_of_block m
    have cz := cell_of_block z
    have fz := unfrozen_of_block z
    have lz := lt_of_block z
    refine wp_region_L (fun w' => (∀ b o, b < M.heap.size → b ≠ w.heap.size + 1 + 1 → w'.cell? ⟨b, o, none⟩ = M.cell? ⟨b, o, none⟩) ∧ M.heap.size ≤ w'.heap.size) [] (by kernel_rfl) ?_
    obtain ⟨M_0, hw_, kw_⟩ : ∃ wd, wd = M.drew ∧ Below M.heap.size M wd := ⟨_, rfl, Below.drew (Below.refl _ _)⟩
    rw [← hw_]
    clear hw_
    have hS := KE.next hBW (KE.refl M.heap.size (w.heap.size + 1 + 1) M) kw_
    replace x := carryB kw_ (lt_of_block x) x
    replace m := carryB kw_ (lt_of_block m) m
    replace z := carryB kw_ (lt_of_block z) z
    replace KM := Lib.hid (below_next KM.out kw_)
    replace R1 := Lib.hid (R1.out.below kw_)
    clear kw_
    refine wpAnyL_take (i := 0) (oi := _) (v := ?_) (by (simp only [List.getElem?_toArray]; rfl)) (by kernel_rfl) (by kernel_rfl) (by kernel_rfl) (by kernel_rfl) (by exact fun _ _ _ h => h) (Or.inl ⟨by rfl, ?_⟩) (by assumption) ?_
    rotate_left
    · intro wS hSw
      go_simp
      all_goals first | with_reducible rfl | rw [if_neg (by omega)]
    simp only [Act.put, List.setIfInBounds_toArray, List.set]
    refine wpAnyL_take (i := 1) (oi := _) (v := ?_) (by (simp only [List.getElem?_toArray]; rfl)) (by kernel_rfl) (by kernel_rfl) (by kernel_rfl) (by kernel_rfl) (by exact fun _ _ _ h => h) (Or.inl ⟨by rfl, ?_⟩) (by assumption) ?_
    rotate_left
    · intro wS hSw
      go_simp
      all_goals first | with_reducible rfl | rw [if_neg (by omega)]
    simp only [Act.put, List.setIfInBounds_toArray, List.set]
    refine wpAnyL_take (i := 3) (oi := _) (v := ?_) (by (simp only [List.getElem?_toArray]; rfl)) (by kernel_rfl) (by kernel_rfl) (by kernel_rfl) (by kernel_rfl) (by exact fun _ _ _ h => h) (Or.inl ⟨by rfl, ?_⟩) (by assumption) ?_
    rotate_left
    · intro wS hSw
      go_simp
      all_goals first | with_reducible rfl | rw [if_neg (by omega)]
    simp only [Act.put, List.setIfInBounds_toArray, List.set]
    refine wpAnyL_ready (rs := [2, 4]) (by kernel_rfl) (by simp) ?_
    refine AllReadyL.cons (o := _) (by (simp only [List.getElem?_toArray]; rfl)) (fun K hK => ?_) ?_
    · skip
      go_simp
      refine (l5Note_c X1 (T + 1) D r1 _ (plainM 3 r1.me c.v c.s c.r) M_0 R1.out F1.out (plainM_is _ _ _ _ _ _) (plainM_fit _ _ _ _ _) (fun b hb => Nat.lt_of_lt_of_le (hlt b hb) (Nat.le_trans hsM hS.2)) (by omega)).mono ?_
      rintro e M_1 ⟨r2, rfl, hr2_, hf2_, kw_⟩
      replace hS := KE.next hBW hS kw_
      replace x := carryB kw_ (lt_of_block x) x
      replace m := carryB kw_ (lt_of_block m) m
      replace z := carryB kw_ (lt_of_block z) z
      replace KM := Lib.hid (below_next KM.out kw_)
      replace R1 := Lib.hid (R1.out.below kw_)
      clear kw_
      have R2 := Lib.hid hr2_
      have F2 := Lib.hid hf2_
      clear hr2_ hf2_
      refine hK.out _ _ (fun _ => hS) ?_
      clear hK K
      try simp only [Act.put, List.setIfInBounds_toArray, List.set]
      refine wpAnyL_ready (rs := [4, 5]) (by kernel_rfl) (by simp) ?_
      refine AllReadyL.cons (o := _) (by (simp only [List.getElem?_toArray]; rfl)) (fun K hK => ?_) ?_
      · skip
        go_simp
        obtain ⟨M_2, hw_, sw_, hv_, kw_⟩ := blocks1 M_1 (.cells #[.int .i64 3, .int .i64 r1.me, .int .i64 c.v, .int .i64 c.s, .int .i64 c.r.c, .int .i64 c.r.n, .int .i64 c.r.o, .int .i64 c.r.x, .int .i64 c.r.y, .slice none 0 0, .slice none 0 0] 34)
        rw [← hw_]
        clear hw_ sw_
        have hq_ : M.heap.size ≤ M_1.heap.size := Nat.le_trans hBW hS.2
        replace hS := KE.next hBW hS kw_
        replace x := carryB kw_ (lt_of_block x) x
        replace m := carryB kw_ (lt_of_block m) m
        replace z := carryB kw_ (lt_of_block z) z
        replace KM := Lib.hid (below_next KM.out kw_)
        replace R1 := Lib.hid (R1.out.below kw_)
        replace R2 := Lib.hid (R2.out.below kw_)
        clear kw_
        have RS := Lib.hid (row_of_block (k := 11) (R := Mg.cs) (zs := [(plainM 3 r1.me c.v c.s c.r)]) (fun _ => rfl) (show M_2.heap[M_1.heap.size]? = some (.cells (flat Mg.cs [(plainM 3 r1.me c.v c.s c.r)]) 34 (0, 0)) from hv_) hq_ (by unfold maxLen; simp))
        clear hv_ hq_
        refine hK.out _ _ (fun _ => hS) ?_
        clear hK K
        try simp only [Act.put, List.setIfInBounds_toArray, List.set]
        refine wpAnyL_ready (rs := [5]) (by kernel_rfl) (by simp) ?_
        refine AllReadyL.cons (o := _) (by (simp only [List.getElem?_toArray]; rfl)) (fun K hK => ?_) AllReadyL.nil
        have cq_ := cell_of_block z
        have fq_ := unfrozen_of_block z
        have lq_ := lt_of_block z
        go_simp
        obtain ⟨M_3, hV_, sV_, zV_, oV_, kV_⟩ := stored7 M_2 (w.heap.size + 1 + 1) _ _ _ _ _ _ _ (.int .i64 r2.me) (.int .i64 r2.view) (.bool r2.live) (.int .i64 r2.nx) (.slice r2.ta r2.tk.length r2.tc) (.slice r2.ha r2.hd.length r2.hc) (.slice r2.da r2.dn.length r2.dc) z
        rw [← hV_]
        clear hV_ cq_ fq_ lq_
        replace R1 := Lib.hid (R1.out.stored sV_ oV_ (hin _ (by omega) (by omega)))
        replace R2 := Lib.hid (R2.out.stored sV_ oV_ (hin _ (by omega) (by omega)))
        replace RS := Lib.hid (RS.out.later sV_ oV_ (by omega))
        replace x := (oV_ _ (by omega)).trans x
        replace m := (oV_ _ (by omega)).trans m
        replace z := zV_
        replace KM := Lib.hid (KM.out.trans (kV_.mono (by omega)))
        replace hS := KE.store hS sV_ oV_
        clear kV_ oV_ sV_ zV_
        refine hK.out _ _ (fun _ => hS) ?_
        clear hK K
        try simp only [Act.put, List.setIfInBounds_toArray, List.set]
        refine wpAnyL_take (i := 6) (oi := _) (v := ?_) (by (simp only [List.getElem?_toArray]; rfl)) (by kernel_rfl) (by kernel_rfl) (by kernel_rfl) (by kernel_rfl) (by exact fun _ _ _ h => h) (Or.inl ⟨by rfl, ?_⟩) (by assumption) ?_
        rotate_left
        · intro wS hSw
          go_simp
          all_goals first | with_reducible rfl | rw [if_neg (by omega)]
        simp only [Act.put, List.setIfInBounds_toArray, List.set]
        refine wpAnyL_done (by kernel_rfl) ?_ _
        clear hS cx fx lx cm fm lm cz fz lz hne_ hne0_ x m
        go_wp2_with fail
        have czP := cell_of_block z
        refine bodyPost_ret (v := .tuple #[.agg #[.int .i64 r2.me, .int .i64 r2.view, .bool r2.live, .int .i64 r2.nx, .slice r2.ta r2.tk.length r2.tc, .slice r2.ha r2.hd.length r2.hc, .slice r2.da r2.dn.length r2.dc], .slice (some ⟨M_1.heap.size, 0, none⟩) 1 1]) (by simp [results, Try.results105, go_sem, czP]) rfl ?_
        refine ⟨r2, some ⟨M_1.heap.size, 0, none⟩, 1, [(plainM 3 r1.me c.v c.s c.r)], rfl, R2.out.weak hsub, F2.out, ?_, fit_one (plainM_fit _ _ _ _ _), Nat.le_refl _, KM.out⟩
        exact (RS.out.robX eleven_len (fun b hb => Nat.lt_of_lt_of_le (hlt b (hsub b hb)) hsM)).imp fun V' h' => isMs_one h' (plainM_ok _ _ _ _ _ _)
      refine AllReadyL.cons (o := _) (by (simp only [List.getElem?_toArray]; rfl)) (fun K hK => ?_) ?_
      · skip
        have cq_ := cell_of_block z
        have fq_ := unfrozen_of_block z
        have lq_ := lt_of_block z
        go_simp
        obtain ⟨M_2, hV_, sV_, zV_, oV_, kV_⟩ := stored7 M_1 (w.heap.size + 1 + 1) _ _ _ _ _ _ _ (.int .i64 r2.me) (.int .i64 r2.view) (.bool r2.live) (.int .i64 r2.nx) (.slice r2.ta r2.tk.length r2.tc) (.slice r2.ha r2.hd.length r2.hc) (.slice r2.da r2.dn.length r2.dc) z
        rw [← hV_]
        clear hV_ cq_ fq_ lq_
        replace R1 := Lib.hid (R1.out.stored sV_ oV_ (hin _ (by omega) (by omega)))
        replace R2 := Lib.hid (R2.out.stored sV_ oV_ (hin _ (by omega) (by omega)))
        replace x := (oV_ _ (by omega)).trans x
        replace m := (oV_ _ (by omega)).trans m
        replace z := zV_
        replace KM := Lib.hid (KM.out.trans (kV_.mono (by omega)))
        replace hS := KE.store hS sV_ oV_
        clear kV_ oV_ sV_ zV_
        refine hK.out _ _ (fun _ => hS) ?_
        clear hK K
        try simp only [Act.put, List.setIfInBounds_toArray, List.set]
        refine wpAnyL_ready (rs := [4]) (by kernel_rfl) (by simp) ?_
        refine AllReadyL.cons (o := _) (by (simp only [List.getElem?_toArray]; rfl)) (fun K hK => ?_) AllReadyL.nil
        go_simp
        obtain ⟨M_3, hw_, sw_, hv_, kw_⟩ := blocks1 M_2 (.cells #[.int .i64 3, .int .i64 r1.me, .int .i64 c.v, .int .i64 c.s, .int .i64 c.r.c, .int .i64 c.r.n, .int .i64 c.r.o, .int .i64 c.r.x, .int .i64 c.r.y, .slice none 0 0, .slice none 0 0] 34)
        rw [← hw_]
        clear hw_ sw_
        have hq_ : M.heap.size ≤ M_2.heap.size := Nat.le_trans hBW hS.2
        replace hS := KE.next hBW hS kw_
        replace x := carryB kw_ (lt_of_block x) x
        replace m := carryB kw_ (lt_of_block m) m
        replace z := carryB kw_ (lt_of_block z) z
        replace KM := Lib.hid (below_next KM.out kw_)
        replace R1 := Lib.hid (R1.out.below kw_)
        replace R2 := Lib.hid (R2.out.below kw_)
        clear kw_
        have RS := Lib.hid (row_of_block (k := 11) (R := Mg.cs) (zs := [(plainM 3 r1.me c.v c.s c.r)]) (fun _ => rfl) (show M_3.heap[M_2.heap.size]? = some (.cells (flat Mg.cs [(plainM 3 r1.me c.v c.s c.r)]) 34 (0, 0)) from hv_) hq_ (by unfold maxLen; simp))
        clear hv_ hq_
        refine hK.out _ _ (fun _ => hS) ?_
        clear hK K
        try simp only [Act.put, List.setIfInBounds_toArray, List.set]
        refine wpAnyL_take (i := 6) (oi := _) (v := ?_) (by (simp only [List.getElem?_toArray]; rfl)) (by kernel_rfl) (by kernel_rfl) (by kernel_rfl) (by kernel_rfl) (by exact fun _ _ _ h => h) (Or.inl ⟨by rfl, ?_⟩) (by assumption) ?_
        rotate_left
        · intro wS hSw
          go_simp
          all_goals first | with_reducible rfl | rw [if_neg (by omega)]
        simp only [Act.put, List.setIfInBounds_toArray, List.set]
        refine wpAnyL_done (by kernel_rfl) ?_ _
        clear hS cx fx lx cm fm lm cz fz lz hne_ hne0_ x m
        go_wp2_with fail
        have czP := cell_of_block z
        refine bodyPost_ret (v := .tuple #[.agg #[.int .i64 r2.me, .int .i64 r2.view, .bool r2.live, .int .i64 r2.nx, .slice r2.ta r2.tk.length r2.tc, .slice r2.ha r2.hd.length r2.hc, .slice r2.da r2.dn.length r2.dc], .slice (some ⟨M_2.heap.size, 0, none⟩) 1 1]) (by simp [results, Try.results105, go_sem, czP]) rfl ?_
        refine ⟨r2, some ⟨M_2.heap.size, 0, none⟩, 1, [(plainM 3 r1.me c.v c.s c.r)], rfl, R2.out.weak hsub, F2.out, ?_, fit_one (plainM_fit _ _ _ _ _), Nat.le_refl _, KM.out⟩
        exact (RS.out.robX eleven_len (fun b hb => Nat.lt_of_lt_of_le (hlt b (hsub b hb)) hsM)).imp fun V' h' => isMs_one h' (plainM_ok _ _ _ _ _ _)
      exact AllReadyL.nil
    refine AllReadyL.cons (o := _) (by (simp only [List.getElem?_toArray]; rfl)) (fun K hK => ?_) ?_
    · skip
      go_simp
      obtain ⟨M_1, hw_, sw_, hv_, kw_⟩ := blocks1 M_0 (.cells #[.int .i64 3, .int .i64 r1.me, .int .i64 c.v, .int .i64 c.s, .int .i64 c.r.c, .int .i64 c.r.n, .int .i64 c.r.o, .int .i64 c.r.x, .int .i64 c.r.y, .slice none 0 0, .slice none 0 0] 34)
      rw [← hw_]
      clear hw_ sw_
      have hq_ : M.heap.size ≤ M_0.heap.size := Nat.le_trans hBW hS.2
      replace hS := KE.next hBW hS kw_
      replace x := carryB kw_ (lt_of_block x) x
      replace m := carryB kw_ (lt_of_block m) m
      replace z := carryB kw_ (lt_of_block z) z
      replace KM := Lib.hid (below_next KM.out kw_)
      replace R1 := Lib.hid (R1.out.below kw_)
      clear kw_
      have RS := Lib.hid (row_of_block (k := 11) (R := Mg.cs) (zs := [(plainM 3 r1.me c.v c.s c.r)]) (fun _ => rfl) (show M_1.heap[M_0.heap.size]? = some (.cells (flat Mg.cs [(plainM 3 r1.me c.v c.s c.r)]) 34 (0, 0)) from hv_) hq_ (by unfold maxLen; simp))
      clear hv_ hq_
      refine hK.out _ _ (fun _ => hS) ?_
      clear hK K
      try simp only [Act.put, List.setIfInBounds_toArray, List.set]
      refine wpAnyL_ready (rs := [2]) (by kernel_rfl) (by simp) ?_
      refine AllReadyL.cons (o := _) (by (simp only [List.getElem?_toArray]; rfl)) (fun K hK => ?_) AllReadyL.nil
      go_simp
      refine (l5Note_c X1 (T + 1) D r1 _ (plainM 3 r1.me c.v c.s c.r) M_1 R1.out F1.out (plainM_is _ _ _ _ _ _) (plainM_fit _ _ _ _ _) (fun b hb => Nat.lt_of_lt_of_le (hlt b hb) (Nat.le_trans hsM hS.2)) (by omega)).mono ?_
      rintro e M_2 ⟨r2, rfl, hr2_, hf2_, kw_⟩
      replace hS := KE.next hBW hS kw_
      replace x := carryB kw_ (lt_of_block x) x
      replace m := carryB kw_ (lt_of_block m) m
      replace z := carryB kw_ (lt_of_block z) z
      replace KM := Lib.hid (below_next KM.out kw_)
      replace R1 := Lib.hid (R1.out.below kw_)
      replace RS := Lib.hid (RS.out.below kw_)
      clear kw_
      have R2 := Lib.hid hr2_
      have F2 := Lib.hid hf2_
      clear hr2_ hf2_
      refine hK.out _ _ (fun _ => hS) ?_
      clear hK K
      try simp only [Act.put, List.setIfInBounds_toArray, List.set]
      refine wpAnyL_ready (rs := [5]) (by kernel_rfl) (by simp) ?_
      refine AllReadyL.cons (o := _) (by (simp only [List.getElem?_toArray]; rfl)) (fun K hK => ?_) AllReadyL.nil
      have cq_ := cell_of_block z
      have fq_ := unfrozen_of_block z
      have lq_ := lt_of_block z
      go_simp
      obtain ⟨M_3, hV_, sV_, zV_, oV_, kV_⟩ := stored7 M_2 (w.heap.size + 1 + 1) _ _ _ _ _ _ _ (.int .i64 r2.me) (.int .i64 r2.view) (.bool r2.live) (.int .i64 r2.nx) (.slice r2.ta r2.tk.length r2.tc) (.slice r2.ha r2.hd.length r2.hc) (.slice r2.da r2.dn.length r2.dc) z
      rw [← hV_]
      clear hV_ cq_ fq_ lq_
      replace R1 := Lib.hid (R1.out.stored sV_ oV_ (hin _ (by omega) (by omega)))
      replace R2 := Lib.hid (R2.out.stored sV_ oV_ (hin _ (by omega) (by omega)))
      replace RS := Lib.hid (RS.out.later sV_ oV_ (by omega))
      replace x := (oV_ _ (by omega)).trans x
      replace m := (oV_ _ (by omega)).trans m
      replace z := zV_
      replace KM := Lib.hid (KM.out.trans (kV_.mono (by omega)))
      replace hS := KE.store hS sV_ oV_
      clear kV_ oV_ sV_ zV_
      refine hK.out _ _ (fun _ => hS) ?_
      clear hK K
      try simp only [Act.put, List.setIfInBounds_toArray, List.set]
      refine wpAnyL_take (i := 6) (oi := _) (v := ?_) (by (simp only [List.getElem?_toArray]; rfl)) (by kernel_rfl) (by kernel_rfl) (by kernel_rfl) (by kernel_rfl) (by exact fun _ _ _ h => h) (Or.inl ⟨by rfl, ?_⟩) (by assumption) ?_
      rotate_left
      · intro wS hSw
        go_simp
        all_goals first | with_reducible rfl | rw [if_neg (by omega)]
      simp only [Act.put, List.setIfInBounds_toArray, List.set]
      refine wpAnyL_done (by kernel_rfl) ?_ _
      clear hS cx fx lx cm fm lm cz fz lz hne_ hne0_ x m
      go_wp2_with fail
      have czP := cell_of_block z
      refine bodyPost_ret (v := .tuple #[.agg #[.int .i64 r2.me, .int .i64 r2.view, .bool r2.live, .int .i64 r2.nx, .slice r2.ta r2.tk.length r2.tc, .slice r2.ha r2.hd.length r2.hc, .slice r2.da r2.dn.length r2.dc], .slice (some ⟨M_0.heap.size, 0, none⟩) 1 1]) (by simp [results, Try.results105, go_sem, czP]) rfl ?_
      refine ⟨r2, some ⟨M_0.heap.size, 0, none⟩, 1, [(plainM 3 r1.me c.v c.s c.r)], rfl, R2.out.weak hsub, F2.out, ?_, fit_one (plainM_fit _ _ _ _ _), Nat.le_refl _, KM.out⟩
      exact (RS.out.robX eleven_len (fun b hb => Nat.lt_of_lt_of_le (hlt b (hsub b hb)) hsM)).imp fun V' h' => isMs_one h' (plainM_ok _ _ _ _ _ _)
    exact AllReadyL.nil
end Go.Proofs.Ytgdhieffjflejaa
