/- GameDo, the reference's and the program's, as a law's walk asks them; condition: small sizes. -/
import Derived.Test.YtofedboeggdkaaaDoI
import Derived.Test.YtofedboeggdkaaaGameOkS
namespace Go.Proofs.Ytofedboeggdkaaa
open Go.RowKit Go.Joins

def doR (z : Gm) (r : Rq) : Gm × Int := gameDo z r (good r)
theorem doR_len (z : Gm) (r : Rq) (hs : z.es.length + z.fl.length + z.la.length ≤ 1048576) : (doR z r).1.es.length ≤ 1048576 ∧ (doR z r).1.fl.length ≤ 1048576 ∧ (doR z r).1.la.length ≤ 1048576 := by
  unfold doR
  by_cases hb : gameB z = true ∧ good r = true
  · rw [gameDo_yes hb.1 hb.2]
    have hk := doG_ok hb.1 (good_or hb.2)
    have h1 := game_lensG hk
    rw [gameB_iff] at hk
    have h2 := ents_le4 hk.1
    omega
  · have hb' : gameB z = false ∨ good r = false := by
      cases h1 : gameB z with
      | false => exact .inl rfl
      | true =>
        cases h2 : good r with
        | false => exact .inr rfl
        | true => exact absurd ⟨h1, h2⟩ hb
    rw [gameDo_bad hb']
    simp
theorem GameDo_c (z : Gm) (r : Rq) (a0 a1 a2 : Option Addr) (c0 c1 c2 : Nat) (w : World) (h0 : IsSl w (.slice a0 z.es.length c0) 5 Rq.cs z.es) (h1 : IsSl w (.slice a1 z.fl.length c1) 1 intR z.fl) (h2 : IsSl w (.slice a2 z.la.length c2) 1 intR z.la)
    (hs : z.es.length + z.fl.length + z.la.length ≤ 1048576) :
    Calls Try.prog 29 #[.agg #[.slice a0 z.es.length c0, .slice a1 z.fl.length c1, .slice a2 z.la.length c2], .agg #[.int .i64 r.c, .int .i64 r.n, .int .i64 r.o, .int .i64 r.x, .int .i64 r.y]] w fun e w' => ∃ b0 b1 b2, e = .returned (.tuple #[.agg #[.slice b0 (doR z r).1.es.length (doR z r).1.es.length, .slice b1 (doR z r).1.fl.length (doR z r).1.fl.length, .slice b2 (doR z r).1.la.length (doR z r).1.la.length], .int .i64 (doR z r).2]) ∧
      Row w' w.heap.size 92 b0 (doR z r).1.es.length 5 Rq.cs (doR z r).1.es ∧ Row w' w.heap.size 3 b1 (doR z r).1.fl.length 1 intR (doR z r).1.fl ∧ Row w' w.heap.size 3 b2 (doR z r).1.la.length 1 intR (doR z r).1.la ∧
      (∀ g, rowBlk b0 (doR z r).1.es.length = some g → rowBlk b1 (doR z r).1.fl.length ≠ some g) ∧ (∀ g, rowBlk b0 (doR z r).1.es.length = some g → rowBlk b2 (doR z r).1.la.length ≠ some g) ∧ (∀ g, rowBlk b1 (doR z r).1.fl.length = some g → rowBlk b2 (doR z r).1.la.length ≠ some g) ∧ Below w.heap.size w w' :=
  (GameDoF_c z r a0 a1 a2 c0 c1 c2 w h0 h1 h2 hs).mono fun _ _ ⟨b0, b1, b2, he, o, k⟩ => ⟨b0, b1, b2, he, o.e, o.f, o.l, o.ef, o.el, o.fl, k⟩

set_option maxRecDepth 100000 in
set_option maxHeartbeats 8000000 in
theorem sGameDoG_c (z : Gm) (r : Rq) (a0 a1 a2 : Option Addr) (c0 c1 c2 : Nat) (w : World) (h0 : IsSl w (.slice a0 z.es.length c0) 5 Rq.cs z.es) (h1 : IsSl w (.slice a1 z.fl.length c1) 1 intR z.fl) (h2 : IsSl w (.slice a2 z.la.length c2) 1 intR z.la)
    (hs : z.es.length + z.fl.length + z.la.length ≤ 1048576) :
    Calls Try.prog 43 #[.agg #[.slice a0 z.es.length c0, .slice a1 z.fl.length c1, .slice a2 z.la.length c2], .agg #[.int .i64 r.c, .int .i64 r.n, .int .i64 r.o, .int .i64 r.x, .int .i64 r.y]] w (RetG w.heap.size (doR z r).1 (doR z r).2 w) := by
  have H0 := Lib.hid h0
  have H1 := Lib.hid h1
  have H2 := Lib.hid h2
  have HS := Lib.hid hs
  have hgr : good r = (noneB r.c r.n r.o r.x r.y || okB r.c r.n r.o r.x r.y) := rfl
  have HGR := Lib.hid hgr
  obtain ⟨m0, hm0⟩ : ∃ m, m = z.es.length := ⟨_, rfl⟩
  obtain ⟨m1, hm1⟩ : ∃ m, m = z.fl.length := ⟨_, rfl⟩
  obtain ⟨m2, hm2⟩ : ∃ m, m = z.la.length := ⟨_, rfl⟩
  have HM0 := Lib.hid hm0
  have HM1 := Lib.hid hm1
  have HM2 := Lib.hid hm2
  have CO := Lib.hid (fun V (k : Below w.heap.size w V) => l2Ok_c z a0 a1 a2 c0 c1 c2 V (h0.below k) (h1.below k) (h2.below k) hs)
  rw [← hm0] at H0 CO ⊢
  rw [← hm1] at H1 CO ⊢
  rw [← hm2] at H2 CO ⊢
  have hs' : m0 ≤ 1048576 ∧ m1 ≤ 1048576 ∧ m2 ≤ 1048576 := by omega
  clear h0 h1 h2 hs hm0 hm1 hm2 hgr
  go_enter Try.func43, Try.ntmps43
  go_upto_region 1 with fail
  obtain ⟨W, hW, sW, aW, qW, bW, kW⟩ := blocks3 w (.cells #[.slice a0 m0 c0, .slice a1 m1 c1, .slice a2 m2 c2] 46) (.cells #[.int .i64 r.c, .int .i64 r.n, .int .i64 r.o, .int .i64 r.x, .int .i64 r.y] 34) (.cells #[.slice none 0 0, .slice none 0 0, .slice none 0 0] 46)
  rw [← hW]
  clear hW sW
  have cA := cell_of_block aW
  go_wp2_with fail
  refine (CO.out W kW).mono ?_
  rintro e X ⟨rfl, k1⟩
  replace aW := carryN k1 aW
  replace bW := carryN k1 bW
  replace qW := carryN k1 qW
  have KX := Lib.hid (below_next kW k1)
  clear cA k1 kW
  cases hg : gameB z with
  | false =>
    have cB := cell_of_block bW
    have fB := unfrozen_of_block bW
    have lB := lt_of_block bW
    have HD := Lib.hid (show doR z r = (⟨[], [], []⟩, 1) from gameDo_bad (.inl hg))
    clear hg
    go_wp2_with fail
    refine bodyPost_ret (v := .tuple #[.agg #[.slice none 0 0, .slice none 0 0, .slice none 0 0], .int .i64 1]) (by simp [results, Try.results43, go_sem, cB]) rfl ?_
    rw [HD.out]
    have KX' := KX.out
    exact ⟨_, rfl, (own3_nil _ _).gm, (by repeat' (first | with_reducible exact Below.refl _ _ | with_reducible assumption | with_reducible refine Below.alloc ?_ ?_ _ | with_reducible refine Below.drew ?_ | with_reducible refine Below.setCell ?_ ?_ _ | omega | (simp; omega) | (simp; done)))⟩
  | true =>
    have HG := Lib.hid hg
    clear hg
    have cQ := cell_of_block qW
    go_wp2_with fail
    refine (l1Ok_c r.c r.n r.o r.x r.y X).mono ?_
    rintro e Y ⟨rfl, k2⟩
    replace aW := carryN k2 aW
    replace bW := carryN k2 bW
    replace qW := carryN k2 qW
    replace KX := Lib.hid (below_next KX.out k2)
    clear cQ k2
    cases hok : okB r.c r.n r.o r.x r.y with
    | true =>
      have hgood : good r = true := by rw [HGR.out, hok, Bool.or_true]
      have HD := Lib.hid (show doR z r = doG z r from gameDo_yes HG.out hgood)
      have HGD := Lib.hid hgood
      clear hok hgood
      have cA := cell_of_block aW
      have cQ := cell_of_block qW
      go_wp2_with fail
      have hWs : w.heap.size + 2 < Y.heap.size := lt_of_block bW
      have HB2 := Lib.hid bW
      refine wp_region_held_drew (S := fun w' => ((∀ b o, b < w.heap.size + 2 → (w').cell? ⟨b, o, none⟩ = (Y).cell? ⟨b, o, none⟩) ∧ Below (w.heap.size + 2) (Y) (w'))) (by kernel_rfl) (KeptB.drew (KeptB.refl _ _)) (fun hHeld => ?_)
      refine wpAnyH_take (i := 0) (oi := _) (v := ?_) (by (simp only [List.getElem?_toArray]; rfl)) (by kernel_rfl) (by kernel_rfl) (by kernel_rfl) (by exact fun _ _ _ h => h) (Or.inl ⟨by rfl, ?_⟩) (by assumption) ?_
      rotate_left
      · intro wS hSw
        go_simp
        all_goals first | with_reducible rfl | rw [if_neg (by omega)]
      simp only [Act.put, List.setIfInBounds_toArray, List.set]
      refine wpAnyH_take (i := 2) (oi := _) (v := ?_) (by (simp only [List.getElem?_toArray]; rfl)) (by kernel_rfl) (by kernel_rfl) (by kernel_rfl) (by exact fun _ _ _ h => h) (Or.inl ⟨by rfl, ?_⟩) (by assumption) ?_
      rotate_left
      · intro wS hSw
        go_simp
        all_goals first | with_reducible rfl | rw [if_neg (by omega)]
      simp only [Act.put, List.setIfInBounds_toArray, List.set]
      have k0 := Lib.hid (KeptB.drew (KeptB.refl Y.heap.size Y))
      clear hHeld cA cQ aW bW qW
      refine wpAnyH_ready (rs := [1]) (by kernel_rfl) (by simp) ?_
      refine AllReadyH.cons (o := _) (by (simp only [List.getElem?_toArray]; rfl)) (fun K hK => ?_) AllReadyH.nil
      go_simp
      refine (l2Copy_c z a0 a1 a2 m0 m1 m2 c0 c1 c2 _ (H0.out.below (KX.out.trans (k0.out.2.mono KX.out.size))) (H1.out.below (KX.out.trans (k0.out.2.mono KX.out.size))) (H2.out.below (KX.out.trans (k0.out.2.mono KX.out.size))) (by omega) (by omega) (by omega)).mono ?_
      rintro e u1 ⟨v1, rfl, ov1, kk⟩
      obtain ⟨b0, d0, b1, d1, b2, d2, hv, o1⟩ := ov1.rows
      rw [hv]
      rw [hv] at ov1
      have OV := Lib.hid ov1
      have t1 := Lib.hid (KeptB.next (Nat.le_refl _) k0.out kk)
      have hsz : Y.drew.heap.size ≤ u1.heap.size := kk.size
      clear kk ov1 o1 hv
      refine hK.out _ _ (KeptB.weak t1.out (by omega)) (fun hHeld => ?_)
      clear hK K
      try simp only [Act.put, List.setIfInBounds_toArray, List.set]
      clear hHeld
      refine wpAnyH_ready (rs := [3]) (by kernel_rfl) (by simp) ?_
      refine AllReadyH.cons (o := _) (by (simp only [List.getElem?_toArray]; rfl)) (fun K hK => ?_) AllReadyH.nil
      go_simp
      refine (l2Do_c (B := Y.drew.heap.size) z r _ u1 OV.out hsz HG.out HGD.out).mono ?_
      rintro e u2 ⟨v2, rfl, ov2, k2⟩
      rw [← HD.out] at ov2 ⊢
      obtain ⟨p, hpp⟩ : ∃ p, p = doR z r := ⟨_, rfl⟩
      have HPP := Lib.hid hpp
      rw [← hpp] at ov2 ⊢
      clear hpp
      obtain ⟨g4, cd⟩ := p
      simp only at ov2 ⊢
      obtain ⟨e0, f0, e1, f1, e2, f2, hv, o2⟩ := ov2.rows
      obtain ⟨n0, hn0⟩ : ∃ m, m = g4.es.length := ⟨_, rfl⟩
      obtain ⟨n1, hn1⟩ : ∃ m, m = g4.fl.length := ⟨_, rfl⟩
      obtain ⟨n2, hn2⟩ : ∃ m, m = g4.la.length := ⟨_, rfl⟩
      rw [← hn0, ← hn1, ← hn2] at hv
      rw [hv]
      have HN0 := Lib.hid hn0
      have HN1 := Lib.hid hn1
      have HN2 := Lib.hid hn2
      have O2 := Lib.hid (o2.low (show w.heap.size ≤ Y.drew.heap.size from KX.out.size))
      have t2 := Lib.hid (KeptB.next (Nat.le_refl _) t1.out k2)
      have bV := carryN t2.out.2 HB2.out
      have K2 := Lib.hid (below_next KX.out t2.out.2)
      clear k2 o2 ov2 hv hn0 hn1 hn2
      refine hK.out _ _ (KeptB.weak t2.out (by omega)) (fun hHeld => ?_)
      clear hK K
      try simp only [Act.put, List.setIfInBounds_toArray, List.set]
      refine wpAnyH_take (i := 4) (oi := _) (v := ?_) (by (simp only [List.getElem?_toArray]; rfl)) (by kernel_rfl) (by kernel_rfl) (by kernel_rfl) (by exact fun _ _ _ h => h) (Or.inl ⟨by rfl, ?_⟩) (by assumption) ?_
      rotate_left
      · intro wS hSw
        go_simp
        all_goals first | with_reducible rfl | rw [if_neg (by omega)]
      simp only [Act.put, List.setIfInBounds_toArray, List.set]
      refine wpAnyH_take (i := 5) (oi := _) (v := ?_) (by (simp only [List.getElem?_toArray]; rfl)) (by kernel_rfl) (by kernel_rfl) (by kernel_rfl) (by exact fun _ _ _ h => h) (Or.inl ⟨by rfl, ?_⟩) (by assumption) ?_
      rotate_left
      · intro wS hSw
        go_simp
        all_goals first | with_reducible rfl | rw [if_neg (by omega)]
      simp only [Act.put, List.setIfInBounds_toArray, List.set]
      clear hHeld
      have cB := cell_of_block bV
      have fB := unfrozen_of_block bV
      have lB := lt_of_block bV
      refine wpAnyH_ready (rs := [6]) (by kernel_rfl) (by simp) ?_
      refine AllReadyH.cons (o := _) (by (simp only [List.getElem?_toArray]; rfl)) (fun K hK => ?_) AllReadyH.nil
      go_simp
      refine hK.out _ _ (KeptB.set (by simp) _ (KeptB.set (by simp) _ (KeptB.set (by simp) _ (KeptB.weak t2.out (show w.heap.size + 2 ≤ Y.heap.size by omega))))) (fun hHeld => ?_)
      clear hK K
      try simp only [Act.put, List.setIfInBounds_toArray, List.set]
      refine wpAnyH_take (i := 7) (oi := _) (v := ?_) (by (simp only [List.getElem?_toArray]; rfl)) (by kernel_rfl) (by kernel_rfl) (by kernel_rfl) (by exact fun _ _ _ h => h) (Or.inl ⟨by rfl, ?_⟩) (by assumption) ?_
      rotate_left
      · intro wS hSw
        go_simp
        all_goals first | with_reducible rfl | rw [if_neg (by omega)]
      simp only [Act.put, List.setIfInBounds_toArray, List.set]
      refine wpAnyH_done (by kernel_rfl) ?_ _
      have OF := Lib.hid (O2.out.set3 bV (.slice e0 n0 f0) (.slice e1 n1 f1) (.slice e2 n2 f2))
      have KF := Lib.hid (below_set3 K2.out (show w.heap.size ≤ w.heap.size + 2 by omega) (.slice e0 n0 f0) (.slice e1 n1 f1) (.slice e2 n2 f2))
      go_wp2_with fail
      refine bodyPost_ret (v := .tuple #[.agg #[.slice e0 n0 f0, .slice e1 n1 f1, .slice e2 n2 f2], .int .i64 cd]) (by simp [results, Try.results43, go_sem, cB]) rfl ?_
      rw [← HPP.out]
      exact ⟨_, rfl, OF.out.gmV HN0.out.symm HN1.out.symm HN2.out.symm, KF.out⟩
    | false =>
      have cQ := cell_of_block qW
      go_wp2_with fail
      refine (l1None_c r.c r.n r.o r.x r.y Y).mono ?_
      rintro e Z ⟨rfl, k3⟩
      replace aW := carryN k3 aW
      replace bW := carryN k3 bW
      replace qW := carryN k3 qW
      replace KX := Lib.hid (below_next KX.out k3)
      clear cQ k3
      cases hnn : noneB r.c r.n r.o r.x r.y with
      | true =>
        have hgood : good r = true := by rw [HGR.out, hnn, Bool.true_or]
        have HD := Lib.hid (show doR z r = doG z r from gameDo_yes HG.out hgood)
        have HGD := Lib.hid hgood
        clear hok hgood hnn
        have cA := cell_of_block aW
        have cQ := cell_of_block qW
        go_wp2_with fail
        have hWs : w.heap.size + 2 < Z.heap.size := lt_of_block bW
        have HB2 := Lib.hid bW
        refine wp_region_held_drew (S := fun w' => ((∀ b o, b < w.heap.size + 2 → (w').cell? ⟨b, o, none⟩ = (Z).cell? ⟨b, o, none⟩) ∧ Below (w.heap.size + 2) (Z) (w'))) (by kernel_rfl) (KeptB.drew (KeptB.refl _ _)) (fun hHeld => ?_)
        refine wpAnyH_take (i := 0) (oi := _) (v := ?_) (by (simp only [List.getElem?_toArray]; rfl)) (by kernel_rfl) (by kernel_rfl) (by kernel_rfl) (by exact fun _ _ _ h => h) (Or.inl ⟨by rfl, ?_⟩) (by assumption) ?_
        rotate_left
        · intro wS hSw
          go_simp
          all_goals first | with_reducible rfl | rw [if_neg (by omega)]
        simp only [Act.put, List.setIfInBounds_toArray, List.set]
        refine wpAnyH_take (i := 2) (oi := _) (v := ?_) (by (simp only [List.getElem?_toArray]; rfl)) (by kernel_rfl) (by kernel_rfl) (by kernel_rfl) (by exact fun _ _ _ h => h) (Or.inl ⟨by rfl, ?_⟩) (by assumption) ?_
        rotate_left
        · intro wS hSw
          go_simp
          all_goals first | with_reducible rfl | rw [if_neg (by omega)]
        simp only [Act.put, List.setIfInBounds_toArray, List.set]
        have k0 := Lib.hid (KeptB.drew (KeptB.refl Z.heap.size Z))
        clear hHeld cA cQ aW bW qW
        refine wpAnyH_ready (rs := [1]) (by kernel_rfl) (by simp) ?_
        refine AllReadyH.cons (o := _) (by (simp only [List.getElem?_toArray]; rfl)) (fun K hK => ?_) AllReadyH.nil
        go_simp
        refine (l2Copy_c z a0 a1 a2 m0 m1 m2 c0 c1 c2 _ (H0.out.below (KX.out.trans (k0.out.2.mono KX.out.size))) (H1.out.below (KX.out.trans (k0.out.2.mono KX.out.size))) (H2.out.below (KX.out.trans (k0.out.2.mono KX.out.size))) (by omega) (by omega) (by omega)).mono ?_
        rintro e u1 ⟨v1, rfl, ov1, kk⟩
        obtain ⟨b0, d0, b1, d1, b2, d2, hv, o1⟩ := ov1.rows
        rw [hv]
        rw [hv] at ov1
        have OV := Lib.hid ov1
        have t1 := Lib.hid (KeptB.next (Nat.le_refl _) k0.out kk)
        have hsz : Z.drew.heap.size ≤ u1.heap.size := kk.size
        clear kk ov1 o1 hv
        refine hK.out _ _ (KeptB.weak t1.out (by omega)) (fun hHeld => ?_)
        clear hK K
        try simp only [Act.put, List.setIfInBounds_toArray, List.set]
        clear hHeld
        refine wpAnyH_ready (rs := [3]) (by kernel_rfl) (by simp) ?_
        refine AllReadyH.cons (o := _) (by (simp only [List.getElem?_toArray]; rfl)) (fun K hK => ?_) AllReadyH.nil
        go_simp
        refine (l2Do_c (B := Z.drew.heap.size) z r _ u1 OV.out hsz HG.out HGD.out).mono ?_
        rintro e u2 ⟨v2, rfl, ov2, k2⟩
        rw [← HD.out] at ov2 ⊢
        obtain ⟨p, hpp⟩ : ∃ p, p = doR z r := ⟨_, rfl⟩
        have HPP := Lib.hid hpp
        rw [← hpp] at ov2 ⊢
        clear hpp
        obtain ⟨g4, cd⟩ := p
        simp only at ov2 ⊢
        obtain ⟨e0, f0, e1, f1, e2, f2, hv, o2⟩ := ov2.rows
        obtain ⟨n0, hn0⟩ : ∃ m, m = g4.es.length := ⟨_, rfl⟩
        obtain ⟨n1, hn1⟩ : ∃ m, m = g4.fl.length := ⟨_, rfl⟩
        obtain ⟨n2, hn2⟩ : ∃ m, m = g4.la.length := ⟨_, rfl⟩
        rw [← hn0, ← hn1, ← hn2] at hv
        rw [hv]
        have HN0 := Lib.hid hn0
        have HN1 := Lib.hid hn1
        have HN2 := Lib.hid hn2
        have O2 := Lib.hid (o2.low (show w.heap.size ≤ Z.drew.heap.size from KX.out.size))
        have t2 := Lib.hid (KeptB.next (Nat.le_refl _) t1.out k2)
        have bV := carryN t2.out.2 HB2.out
        have K2 := Lib.hid (below_next KX.out t2.out.2)
        clear k2 o2 ov2 hv hn0 hn1 hn2
        refine hK.out _ _ (KeptB.weak t2.out (by omega)) (fun hHeld => ?_)
        clear hK K
        try simp only [Act.put, List.setIfInBounds_toArray, List.set]
        refine wpAnyH_take (i := 4) (oi := _) (v := ?_) (by (simp only [List.getElem?_toArray]; rfl)) (by kernel_rfl) (by kernel_rfl) (by kernel_rfl) (by exact fun _ _ _ h => h) (Or.inl ⟨by rfl, ?_⟩) (by assumption) ?_
        rotate_left
        · intro wS hSw
          go_simp
          all_goals first | with_reducible rfl | rw [if_neg (by omega)]
        simp only [Act.put, List.setIfInBounds_toArray, List.set]
        refine wpAnyH_take (i := 5) (oi := _) (v := ?_) (by (simp only [List.getElem?_toArray]; rfl)) (by kernel_rfl) (by kernel_rfl) (by kernel_rfl) (by exact fun _ _ _ h => h) (Or.inl ⟨by rfl, ?_⟩) (by assumption) ?_
        rotate_left
        · intro wS hSw
          go_simp
          all_goals first | with_reducible rfl | rw [if_neg (by omega)]
        simp only [Act.put, List.setIfInBounds_toArray, List.set]
        clear hHeld
        have cB := cell_of_block bV
        have fB := unfrozen_of_block bV
        have lB := lt_of_block bV
        refine wpAnyH_ready (rs := [6]) (by kernel_rfl) (by simp) ?_
        refine AllReadyH.cons (o := _) (by (simp only [List.getElem?_toArray]; rfl)) (fun K hK => ?_) AllReadyH.nil
        go_simp
        refine hK.out _ _ (KeptB.set (by simp) _ (KeptB.set (by simp) _ (KeptB.set (by simp) _ (KeptB.weak t2.out (show w.heap.size + 2 ≤ Z.heap.size by omega))))) (fun hHeld => ?_)
        clear hK K
        try simp only [Act.put, List.setIfInBounds_toArray, List.set]
        refine wpAnyH_take (i := 7) (oi := _) (v := ?_) (by (simp only [List.getElem?_toArray]; rfl)) (by kernel_rfl) (by kernel_rfl) (by kernel_rfl) (by exact fun _ _ _ h => h) (Or.inl ⟨by rfl, ?_⟩) (by assumption) ?_
        rotate_left
        · intro wS hSw
          go_simp
          all_goals first | with_reducible rfl | rw [if_neg (by omega)]
        simp only [Act.put, List.setIfInBounds_toArray, List.set]
        refine wpAnyH_done (by kernel_rfl) ?_ _
        have OF := Lib.hid (O2.out.set3 bV (.slice e0 n0 f0) (.slice e1 n1 f1) (.slice e2 n2 f2))
        have KF := Lib.hid (below_set3 K2.out (show w.heap.size ≤ w.heap.size + 2 by omega) (.slice e0 n0 f0) (.slice e1 n1 f1) (.slice e2 n2 f2))
        go_wp2_with fail
        refine bodyPost_ret (v := .tuple #[.agg #[.slice e0 n0 f0, .slice e1 n1 f1, .slice e2 n2 f2], .int .i64 cd]) (by simp [results, Try.results43, go_sem, cB]) rfl ?_
        rw [← HPP.out]
        exact ⟨_, rfl, OF.out.gmV HN0.out.symm HN1.out.symm HN2.out.symm, KF.out⟩
      | false =>
        have hbad : good r = false := by rw [HGR.out, hnn, hok]; rfl
        have HD := Lib.hid (show doR z r = (⟨[], [], []⟩, 1) from gameDo_bad (.inr hbad))
        have cB := cell_of_block bW
        have fB := unfrozen_of_block bW
        have lB := lt_of_block bW
        clear hbad hok hnn
        go_wp2_with fail
        refine bodyPost_ret (v := .tuple #[.agg #[.slice none 0 0, .slice none 0 0, .slice none 0 0], .int .i64 1]) (by simp [results, Try.results43, go_sem, cB]) rfl ?_
        rw [HD.out]
        have KX' := KX.out
        exact ⟨_, rfl, (own3_nil _ _).gm, (by repeat' (first | with_reducible exact Below.refl _ _ | with_reducible assumption | with_reducible refine Below.alloc ?_ ?_ _ | with_reducible refine Below.drew ?_ | with_reducible refine Below.setCell ?_ ?_ _ | omega | (simp; omega) | (simp; done)))⟩
theorem sGameDo_c (z : Gm) (r : Rq) (a0 a1 a2 : Option Addr) (c0 c1 c2 : Nat) (w : World) (h0 : IsSl w (.slice a0 z.es.length c0) 5 Rq.cs z.es) (h1 : IsSl w (.slice a1 z.fl.length c1) 1 intR z.fl) (h2 : IsSl w (.slice a2 z.la.length c2) 1 intR z.la)
    (hs : z.es.length + z.fl.length + z.la.length ≤ 1048576) :
    Calls Try.prog 43 #[.agg #[.slice a0 z.es.length c0, .slice a1 z.fl.length c1, .slice a2 z.la.length c2], .agg #[.int .i64 r.c, .int .i64 r.n, .int .i64 r.o, .int .i64 r.x, .int .i64 r.y]] w fun e w' => ∃ b0 d0 b1 d1 b2 d2, e = .returned (.tuple #[.agg #[.slice b0 (doR z r).1.es.length d0, .slice b1 (doR z r).1.fl.length d1, .slice b2 (doR z r).1.la.length d2], .int .i64 (doR z r).2]) ∧
      Row w' w.heap.size 92 b0 d0 5 Rq.cs (doR z r).1.es ∧ Row w' w.heap.size 3 b1 d1 1 intR (doR z r).1.fl ∧ Row w' w.heap.size 3 b2 d2 1 intR (doR z r).1.la ∧ Below w.heap.size w w' :=
  (sGameDoG_c z r a0 a1 a2 c0 c1 c2 w h0 h1 h2 hs).mono fun _ _ ⟨v, he, og, k⟩ => by
    obtain ⟨b0, d0, b1, d1, b2, d2, hv, o⟩ := og.rows
    subst hv
    exact ⟨b0, d0, b1, d1, b2, d2, he, o.e, o.f, o.l, k⟩
end Go.Proofs.Ytofedboeggdkaaa
