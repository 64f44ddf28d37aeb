/- The reference's l2Act, at hits and gifts; condition: small sizes. -/
import Derived.Test.YtilldpoleiippaaGreatDoorOwnX
import Derived.Test.YtilldpoleiippaaGreatDoorActG
set_option linter.unusedSimpArgs false
set_option linter.unusedVariables false
namespace Go.Proofs.YtilldpoleiippaaGreatDoor
open Go.RowKit Go.Joins

set_option maxRecDepth 100000 in
set_option maxHeartbeats 8000000 in
theorem l2Act_hit {B : Nat} {X : Nat → Prop} (es : List Rq) (fl la : List Int) (k n0 n2 : Nat) (a0 a1 a2 : Option Addr) (c0 c1 c2 : Nat) (c n x y : Int) (w : World) (h : OwnX X w B a0 c0 a1 c1 a2 c2 ⟨es, fl, la⟩) (hn0 : es.length = n0) (hn1 : fl.length = 16) (hn2 : la.length = n2) (hk : k < n0) (h4 : n0 ≤ 4) (hB : B ≤ w.heap.size) (hp : Places es) (hf : ∀ n ∈ fl, 0 ≤ n ∧ n ≤ 20)
    (hx : -1 ≤ x ∧ x ≤ 4) (hy : -1 ≤ y ∧ y ≤ 9) :
    Calls Tryz.prog 63 #[.agg #[.slice a0 n0 c0, .slice a1 16 c1, .slice a2 n2 c2], .int .i64 k, .agg #[.int .i64 c, .int .i64 n, .int .i64 4, .int .i64 x, .int .i64 y]] w (RetX X B (hitR ⟨es, fl, la⟩ k (figAt es x)).1 (hitR ⟨es, fl, la⟩ k (figAt es x)).2 w) := by
  have O := Lib.hid h
  have HN0 := Lib.hid hn0
  have HN1 := Lib.hid hn1
  have HN2 := Lib.hid hn2
  have HP := Lib.hid hp
  have HF := Lib.hid hf
  have hle0 : n0 ≤ c0 := by have := h.e.len; simp only at this; omega
  have hc0m := h.e.max
  unfold maxLen at hc0m
  have hle1 : 16 ≤ c1 := by have := h.f.len; simp only at this; omega
  have hkz : k < es.length := by omega
  obtain ⟨g0, hg0, hgB, hgl, e0, e1, e2, e3, e4, -, hr0⟩ := h.e.entAt (i := k) hkz
  simp only at e0 e1 e2 e3 e4
  subst hg0
  have hPk := hp _ (List.getElem_mem hkz)
  have hGK := entN_get hkz
  clear h hn0 hn1 hn2 hp hf hr0
  generalize hzk : es[k] = z at *
  have HGK := Lib.hid hGK
  have HZK := Lib.hid hzk
  clear hzk hGK
  go_enter Tryz.func63, Tryz.ntmps63
  go_upto_region 1 with fail
  obtain ⟨W, hW, sW, aW, qW, bW, kW⟩ := blocks3 w (.cells #[.slice (some ⟨g0, 0, none⟩) n0 c0, .slice a1 16 c1, .slice a2 n2 c2] 27) (.cells #[.int .i64 c, .int .i64 n, .int .i64 4, .int .i64 x, .int .i64 y] 79) (.cells #[.slice none 0 0, .slice none 0 0, .slice none 0 0] 27)
  rw [← hW]
  clear hW
  have f0 := (kW.cell (p := ⟨g0, _, none⟩) hgl).trans e0
  have f1 := (kW.cell (p := ⟨g0, _, none⟩) hgl).trans e1
  have f2 := (kW.cell (p := ⟨g0, _, none⟩) hgl).trans e2
  have f3 := (kW.cell (p := ⟨g0, _, none⟩) hgl).trans e3
  have f4 := (kW.cell (p := ⟨g0, _, none⟩) hgl).trans e4
  have cA := cell_of_block aW
  have hk0 : (0 : Int) ≤ (k : Int) := by omega
  have hk1 : (k : Int) < (n0 : Int) := by omega
  go_upto_region 2 with fail
  obtain ⟨X, hX, sX, dX, kX⟩ := blocks1 W (.cells #[.int .i64 z.c, .int .i64 z.n, .int .i64 z.o, .int .i64 z.x, .int .i64 z.y] 44)
  rw [← hX]
  clear hX
  rw [sW] at dX
  replace aW := carryN kX aW
  replace bW := carryN kX bW
  replace qW := carryN kX qW
  have KX := Lib.hid (below_next kW kX)
  have lX : w.heap.size + 3 < X.heap.size := by omega
  clear kW kX sX sW f0 f1 f2 f3 f4 e0 e1 e2 e3 e4 cA
  have cA := cell_of_block aW
  have cQ := cell_of_block qW
  have cD := cell_of_block dX
  have fD := unfrozen_of_block dX
  have cB := cell_of_block bW
  have fB := unfrozen_of_block bW
  have lA := lt_of_block aW
  have lB := lt_of_block bW
  have lQ := lt_of_block qW
  have lD := lt_of_block dX
  have ne_ : ¬ (w.heap.size = w.heap.size + 1) := by omega
  have ne_ : ¬ (w.heap.size + 1 = w.heap.size) := by omega
  have ne_ : ¬ (w.heap.size = w.heap.size + 2) := by omega
  have ne_ : ¬ (w.heap.size + 2 = w.heap.size) := by omega
  have ne_ : ¬ (w.heap.size = w.heap.size + 3) := by omega
  have ne_ : ¬ (w.heap.size + 3 = w.heap.size) := by omega
  have ne_ : ¬ (w.heap.size + 1 = w.heap.size + 3) := by omega
  have ne_ : ¬ (w.heap.size + 3 = w.heap.size + 1) := by omega
  have ne_ : ¬ (w.heap.size + 2 = w.heap.size + 3) := by omega
  have ne_ : ¬ (w.heap.size + 3 = w.heap.size + 2) := by omega
  go_wp2_with fail
  have hcA := fun i => (show X.drew.cell? ⟨w.heap.size, i, none⟩ = _ from cA i)
  refine wp_region_held_drew (S := fun w' => ((∀ b o, b < w.heap.size + 2 → (w').cell? ⟨b, o, none⟩ = (X).cell? ⟨b, o, none⟩) ∧ Below (w.heap.size + 2) (X) (w'))) (by kernel_rfl) (KeptB.drew (KeptB.refl _ _)) (fun hHeld => ?_)
  refine wpAnyH_take (i := 0) (oi := _) (v := ?_) (by (simp only [List.getElem?_toArray]; rfl)) (by kernel_rfl) (by kernel_rfl) (by kernel_rfl) (by exact fun _ _ _ h => h) (Or.inl ⟨by rfl, ?_⟩) (by assumption) ?_
  rotate_left
  · intro wS hSw
    go_simp
    all_goals first | with_reducible rfl | rw [if_neg (by omega)]
  simp only [Act.put, List.setIfInBounds_toArray, List.set]
  refine wpAnyH_take (i := 1) (oi := _) (v := ?_) (by (simp only [List.getElem?_toArray]; rfl)) (by kernel_rfl) (by kernel_rfl) (by kernel_rfl) (by exact fun _ _ _ h => h) (Or.inl ⟨by rfl, ?_⟩) (by assumption) ?_
  rotate_left
  · intro wS hSw
    go_simp
    all_goals first | with_reducible rfl | rw [if_neg (by omega)]
  simp only [Act.put, List.setIfInBounds_toArray, List.set]
  refine wpAnyH_take (i := 2) (oi := _) (v := ?_) (by (simp only [List.getElem?_toArray]; rfl)) (by kernel_rfl) (by kernel_rfl) (by kernel_rfl) (by exact fun _ _ _ h => h) (Or.inl ⟨by rfl, ?_⟩) (by assumption) ?_
  rotate_left
  · intro wS hSw
    go_simp
    all_goals first | with_reducible rfl | rw [if_neg (by omega)]
  simp only [Act.put, List.setIfInBounds_toArray, List.set]
  refine wpAnyH_take (i := 3) (oi := _) (v := ?_) (by (simp only [List.getElem?_toArray]; rfl)) (by kernel_rfl) (by kernel_rfl) (by kernel_rfl) (by exact fun _ _ _ h => h) (Or.inl ⟨by rfl, ?_⟩) (by assumption) ?_
  rotate_left
  · intro wS hSw
    go_simp
    all_goals first | with_reducible rfl | rw [if_neg (by omega)]
  simp only [Act.put, List.setIfInBounds_toArray, List.set]
  refine wpAnyH_take (i := 4) (oi := _) (v := ?_) (by (simp only [List.getElem?_toArray]; rfl)) (by kernel_rfl) (by kernel_rfl) (by kernel_rfl) (by exact fun _ _ _ h => h) (Or.inl ⟨by rfl, ?_⟩) (by assumption) ?_
  rotate_left
  · intro wS hSw
    go_simp
    all_goals first | with_reducible rfl | rw [if_neg (by omega)]
  simp only [Act.put, List.setIfInBounds_toArray, List.set]
  have k0 := Lib.hid (KeptB.drew (KeptB.refl X.heap.size X))
  have HA := Lib.hid aW
  have HB2 := Lib.hid bW
  clear hcA hHeld cA cQ cD fD cB fB aW bW dX qW
  refine wpAnyH_ready (rs := [5]) (by kernel_rfl) (by simp) ?_
  refine AllReadyH.cons (o := _) (by (simp only [List.getElem?_toArray]; rfl)) (fun K hK => ?_) AllReadyH.nil
  go_simp
  refine (l2At_c es x (some ⟨g0, 0, none⟩) a1 a2 n0 16 n2 c0 c1 c2 _ (((O.out.below KX.out).e.slG five_len HN0.out).below k0.out.2)).mono ?_
  rintro e w1 ⟨rfl, k1⟩
  have t1 := Lib.hid (KeptB.next (Nat.le_refl _) k0.out k1)
  clear k1
  rw [figI_opt]
  refine hK.out _ _ (KeptB.weak t1.out (by omega)) (fun hHeld => ?_)
  clear hK K
  try simp only [Act.put, List.setIfInBounds_toArray, List.set]
  clear hHeld
  refine wpAnyH_ready (rs := [6]) (by kernel_rfl) (by simp) ?_
  refine AllReadyH.cons (o := _) (by (simp only [List.getElem?_toArray]; rfl)) (fun K hK => ?_) AllReadyH.nil
  go_simp
  refine (l2Hit_c (B := B) es fl la k n0 n2 (figAt es x) (some ⟨g0, 0, none⟩) a1 a2 c0 c1 c2 _ ((O.out.below KX.out).below t1.out.2) HN0.out HN1.out HN2.out hk h4 (Nat.le_trans hB (Nat.le_trans KX.out.size t1.out.2.size)) HP.out HF.out (fun n hn => by obtain ⟨hl, -⟩ := figAt_some hn; rw [HN0.out] at hl; exact hl)).mono ?_
  rintro e w2 ⟨v, rfl, ov, k2⟩
  obtain ⟨b0, e0, b1, e1, b2, e2, hv, o2⟩ := ov.rows
  obtain ⟨m0, hm0⟩ : ∃ m, m = (hitR ⟨es, fl, la⟩ k (figAt es x)).1.es.length := ⟨_, rfl⟩
  obtain ⟨m1, hm1⟩ : ∃ m, m = (hitR ⟨es, fl, la⟩ k (figAt es x)).1.fl.length := ⟨_, rfl⟩
  obtain ⟨m2, hm2⟩ : ∃ m, m = (hitR ⟨es, fl, la⟩ k (figAt es x)).1.la.length := ⟨_, rfl⟩
  obtain ⟨cd, hcd⟩ : ∃ cd, cd = (hitR ⟨es, fl, la⟩ k (figAt es x)).2 := ⟨_, rfl⟩
  have O2 := Lib.hid o2
  have HM0 := Lib.hid hm0
  have HM1 := Lib.hid hm1
  have HM2 := Lib.hid hm2
  have HCD := Lib.hid hcd
  rw [← hm0, ← hm1, ← hm2] at hv
  rw [← hcd, hv]
  clear hv ov o2 hm0 hm1 hm2 hcd
  have t2 := Lib.hid (KeptB.next (Nat.le_refl _) t1.out k2)
  have bW := carryN t2.out.2 HB2.out
  have K2 := Lib.hid (below_next KX.out t2.out.2)
  clear k2
  refine hK.out _ _ (KeptB.weak t2.out (by omega)) (fun hHeld => ?_)
  clear hK K
  try simp only [Act.put, List.setIfInBounds_toArray, List.set]
  refine wpAnyH_take (i := 7) (oi := _) (v := ?_) (by (simp only [List.getElem?_toArray]; rfl)) (by kernel_rfl) (by kernel_rfl) (by kernel_rfl) (by exact fun _ _ _ h => h) (Or.inl ⟨by rfl, ?_⟩) (by assumption) ?_
  rotate_left
  · intro wS hSw
    go_simp
    all_goals first | with_reducible rfl | rw [if_neg (by omega)]
  simp only [Act.put, List.setIfInBounds_toArray, List.set]
  refine wpAnyH_take (i := 8) (oi := _) (v := ?_) (by (simp only [List.getElem?_toArray]; rfl)) (by kernel_rfl) (by kernel_rfl) (by kernel_rfl) (by exact fun _ _ _ h => h) (Or.inl ⟨by rfl, ?_⟩) (by assumption) ?_
  rotate_left
  · intro wS hSw
    go_simp
    all_goals first | with_reducible rfl | rw [if_neg (by omega)]
  simp only [Act.put, List.setIfInBounds_toArray, List.set]
  clear hHeld
  have cB := cell_of_block bW
  have fB := unfrozen_of_block bW
  have lB := lt_of_block bW
  have lS := lX
  refine wpAnyH_ready (rs := [9]) (by kernel_rfl) (by simp) ?_
  refine AllReadyH.cons (o := _) (by (simp only [List.getElem?_toArray]; rfl)) (fun K hK => ?_) AllReadyH.nil
  go_simp
  refine hK.out _ _ (KeptB.set (by simp) _ (KeptB.set (by simp) _ (KeptB.set (by simp) _ (KeptB.weak t2.out (show w.heap.size + 2 ≤ X.heap.size by omega))))) (fun hHeld => ?_)
  clear hK K
  try simp only [Act.put, List.setIfInBounds_toArray, List.set]
  refine wpAnyH_take (i := 10) (oi := _) (v := ?_) (by (simp only [List.getElem?_toArray]; rfl)) (by kernel_rfl) (by kernel_rfl) (by kernel_rfl) (by exact fun _ _ _ h => h) (Or.inl ⟨by rfl, ?_⟩) (by assumption) ?_
  rotate_left
  · intro wS hSw
    go_simp
    all_goals first | with_reducible rfl | rw [if_neg (by omega)]
  simp only [Act.put, List.setIfInBounds_toArray, List.set]
  refine wpAnyH_done (by kernel_rfl) ?_ _
  have OF := Lib.hid (O2.out.set3 bW (.slice b0 m0 e0) (.slice b1 m1 e1) (.slice b2 m2 e2))
  have KF := Lib.hid (below_set3 K2.out (show w.heap.size ≤ w.heap.size + 2 by omega) (.slice b0 m0 e0) (.slice b1 m1 e1) (.slice b2 m2 e2))
  go_wp2_with fail
  refine bodyPost_ret (v := .tuple #[.agg #[.slice b0 m0 e0, .slice b1 m1 e1, .slice b2 m2 e2], .int .i64 cd]) (by simp [results, Tryz.results63, go_sem, cB]) rfl ?_
  rw [← HCD.out]
  exact ⟨_, rfl, OF.out.gmV HM0.out.symm HM1.out.symm HM2.out.symm, KF.out⟩
end Go.Proofs.YtilldpoleiippaaGreatDoor
