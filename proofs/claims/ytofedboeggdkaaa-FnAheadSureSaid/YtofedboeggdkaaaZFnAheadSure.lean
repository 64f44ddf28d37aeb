/- The walk of FnAheadSure: it returns true for every code; no condition. | FnAheadSure: the law returns true for every input; no condition. -/
import Derived.Test.YtofedboeggdkaaaKI
import Derived.Test.YtofedboeggdkaaaKA
import Derived.ProofKit
import Derived.OpenShut
import Derived.ShutString
import Derived.ChangeOld
import Derived.Below
set_option linter.unusedSimpArgs false
set_option linter.unusedVariables false
/-! The walk of FnAheadSure: it returns true for every code; no condition. -/
namespace Go.Proofs.Ytofedboeggdkaaa.fnAheadSure
open Go.RowKit Go.Joins

set_option maxRecDepth 100000 in
set_option maxHeartbeats 16000000 in
theorem walk (v0 : Value) (z0 : Bts) (w : World) (h0 : IsBytes w v0 z0) :
    Calls Try.prog 13 #[v0] w fun e w' => e = .returned (.bool true) ∧ Below w.heap.size w w' := by
  obtain ⟨a, n, cap⟩ := z0
  have HZ := Lib.hid h0
  obtain ⟨hv, hlc, hm, -⟩ := h0
  simp only at hv hlc hm
  subst hv
  by_cases hbig : (1048576 : Int) < n
  · go_enter Try.func13, Try.ntmps13
    go_wp2_with fail
    go_ret
    exact ⟨rfl, Below.refl _ _⟩
  · go_enter Try.func13, Try.ntmps13
    go_wp2_with fail
    refine (DrawAheadSure_c _ _ w HZ.out).mono ?_
    rintro e w1 ⟨z, a0, a1, c0, c1, rfl, h8, h5, s0, s1, k1⟩
    have CI := Lib.hid (fun V (k : Below w1.heap.size w1 V) => AheadSure_c z a0 a1 c0 c1 V (s0.below k) (s1.below k) (by omega))
    have CS := Lib.hid (fun V (k : Below w1.heap.size w1 V) => sAheadSure_c z a0 a1 c0 c1 V (s0.below k) (s1.below k) (by omega))
    have CG := Lib.hid (fun V (k : Below w1.heap.size w1 V) => AheadGame_c z a0 a1 c0 c1 V (s0.below k) (s1.below k) (by omega))
    have CO := Lib.hid (fun V (k : Below w1.heap.size w1 V) => AheadOk_c z a0 a1 c0 c1 V (s0.below k) (s1.below k) (by omega))
    have CF := Lib.hid (fun V (k : Below w1.heap.size w1 V) => GameFold_c a0 z.dn.length c0 z.dn V (s0.below k) rfl)
    have S0 := Lib.hid s0
    have S1 := Lib.hid s1
    have K1 := Lib.hid k1
    have SG := Lib.hid (sureA_gfold (z := z))
    have GG := Lib.hid (gameA_gfold (z := z))
    obtain ⟨n0, hn0⟩ : ∃ n0, n0 = z.dn.length := ⟨_, rfl⟩
    obtain ⟨n1, hn1⟩ : ∃ n1, n1 = z.wt.length := ⟨_, rfl⟩
    have HN0 := Lib.hid hn0.symm
    have HN1 := Lib.hid hn1.symm
    rw [← hn0] at CI CS CG CO CF S0 h8 ⊢
    rw [← hn1] at CI CS CG CO S1 h5 ⊢
    obtain ⟨y, hy⟩ : ∃ y, y = sureA z := ⟨_, rfl⟩
    rw [← hy] at CI CS SG
    obtain ⟨ab, hab⟩ : ∃ ab, ab = aheadB z := ⟨_, rfl⟩
    have HAB := Lib.hid hab
    rw [← hab] at CO
    clear hn0 hn1 hy hab s0 s1 k1 HZ
    go_wp2_with fail
    obtain ⟨w2, hw2, sw2, aB, k2⟩ := blocks1 w1 (.cells #[.slice a0 n0 c0, .slice a1 n1 c1, .int .i64 z.bk] 30)
    rw [← hw2]
    clear hw2 sw2
    refine (CI.out w2 k2).mono ?_
    rintro e w3' ⟨v, rfl, ov, k3⟩
    obtain ⟨e0, f0, e1, f1, e2, f2, rfl, o3⟩ := ov.rows
    go_wp2_with fail
    obtain ⟨w3, hw3, sw3, gB, k3'⟩ := blocks1 w3' (.cells #[.slice e0 y.es.length f0, .slice e1 y.fl.length f1, .slice e2 y.la.length f2] 46)
    rw [← hw3]
    clear hw3 sw3
    obtain ⟨A, hA⟩ : ∃ A, A = w1.heap.size := ⟨_, rfl⟩
    obtain ⟨G, hG⟩ : ∃ G, G = w3'.heap.size := ⟨_, rfl⟩
    have O3 := Lib.hid ((o3.below k3').low (Nat.zero_le _))
    have A3 := Lib.hid (carryN (below_next k3 k3') aB)
    have G3 := Lib.hid gB
    have W3 := Lib.hid (below_next k2 (below_next k3 k3'))
    rw [← hA] at A3 ⊢
    rw [← hG] at G3 ⊢
    clear k2 k3 k3' ov o3 aB gB hA hG
    have cA := cell_of_block A3.out
    have lA := lt_of_block A3.out
    have cG := cell_of_block G3.out
    have lG := lt_of_block G3.out
    refine wp_region_held_drew (S := fun w' => ((∀ b o, b < w3.heap.size → (w').cell? ⟨b, o, none⟩ = (w3).cell? ⟨b, o, none⟩) ∧ Below (w3.heap.size) (w3) (w'))) (by kernel_rfl) (KeptB.drew (KeptB.refl _ _)) (fun hHeld => ?_)
    refine wpAnyH_take (i := 0) (oi := _) (v := ?_) (by (simp only [List.getElem?_toArray]; rfl)) (by kernel_rfl) (by kernel_rfl) (by kernel_rfl) (by exact fun _ _ _ h => h) (Or.inl ⟨by rfl, ?_⟩) (by assumption) ?_
    rotate_left
    · intro wS hSw
      go_simp
      all_goals first | with_reducible rfl | rw [if_neg (by omega)]
    simp only [Act.put, List.setIfInBounds_toArray, List.set]
    refine wpAnyH_take (i := 1) (oi := _) (v := ?_) (by (simp only [List.getElem?_toArray]; rfl)) (by kernel_rfl) (by kernel_rfl) (by kernel_rfl) (by exact fun _ _ _ h => h) (Or.inl ⟨by rfl, ?_⟩) (by assumption) ?_
    rotate_left
    · intro wS hSw
      go_simp
      all_goals first | with_reducible rfl | rw [if_neg (by omega)]
    simp only [Act.put, List.setIfInBounds_toArray, List.set]
    have t0 := Lib.hid (KeptB.drew (KeptB.refl w3.heap.size w3))
    clear hHeld
    refine wpAnyH_ready (rs := [2]) (by kernel_rfl) (by simp) ?_
    refine AllReadyH.cons (o := _) (by (simp only [List.getElem?_toArray]; rfl)) (fun K hK => ?_) AllReadyH.nil
    go_simp
    refine (CS.out _ (below_next W3.out t0.out.2)).mono ?_
    rintro e u1 ⟨v1, rfl, ov1, kk⟩
    obtain ⟨p0, q0, p1, q1, p2, q2, rfl, o1⟩ := ov1.rows
    have t1 := Lib.hid (KeptB.next (Nat.le_refl _) t0.out kk)
    have Q1 := Lib.hid o1
    clear kk ov1 o1
    refine hK.out _ _ t1.out (fun hHeld => ?_)
    clear hK K
    try simp only [Act.put, List.setIfInBounds_toArray, List.set]
    clear hHeld
    refine wpAnyH_ready (rs := [3]) (by kernel_rfl) (by simp) ?_
    refine AllReadyH.cons (o := _) (by (simp only [List.getElem?_toArray]; rfl)) (fun K hK => ?_) AllReadyH.nil
    go_simp
    refine (wpGame_c y e0 e1 e2 p0 p1 p2 _ _ _ f0 f1 f2 q0 q1 q2 _ ((O3.out.below t1.out.2).e.sl five_len) ((O3.out.below t1.out.2).f.sl int_len) ((O3.out.below t1.out.2).l.sl int_len) (Q1.out.e.sl five_len) (Q1.out.f.sl int_len) (Q1.out.l.sl int_len)).mono ?_
    rintro e u2 ⟨rfl, kk⟩
    have t2 := Lib.hid (KeptB.next (Nat.le_refl _) t1.out kk)
    clear kk Q1
    refine hK.out _ _ t2.out (fun hHeld => ?_)
    clear hK K
    try simp only [Act.put, List.setIfInBounds_toArray, List.set]
    refine wpAnyH_take (i := 4) (oi := _) (v := ?_) (by (simp only [List.getElem?_toArray]; rfl)) (by kernel_rfl) (by kernel_rfl) (by kernel_rfl) (by exact fun _ _ _ h => h) (Or.inl ⟨by rfl, ?_⟩) (by assumption) ?_
    rotate_left
    · intro wS hSw
      go_simp
      all_goals first | with_reducible rfl | rw [if_neg (by omega)]
    simp only [Act.put, List.setIfInBounds_toArray, List.set]
    refine wpAnyH_take (i := 5) (oi := _) (v := ?_) (by (simp only [List.getElem?_toArray]; rfl)) (by kernel_rfl) (by kernel_rfl) (by kernel_rfl) (by exact fun _ _ _ h => h) (Or.inl ⟨by rfl, ?_⟩) (by assumption) ?_
    rotate_left
    · intro wS hSw
      go_simp
      all_goals first | with_reducible rfl | rw [if_neg (by omega)]
    simp only [Act.put, List.setIfInBounds_toArray, List.set]
    refine wpAnyH_take (i := 6) (oi := _) (v := ?_) (by (simp only [List.getElem?_toArray]; rfl)) (by kernel_rfl) (by kernel_rfl) (by kernel_rfl) (by exact fun _ _ _ h => h) (Or.inl ⟨by rfl, ?_⟩) (by assumption) ?_
    rotate_left
    · intro wS hSw
      go_simp
      all_goals first | with_reducible rfl | rw [if_neg (by omega)]
    simp only [Act.put, List.setIfInBounds_toArray, List.set]
    clear hHeld
    refine wpAnyH_ready (rs := [7]) (by kernel_rfl) (by simp) ?_
    refine AllReadyH.cons (o := _) (by (simp only [List.getElem?_toArray]; rfl)) (fun K hK => ?_) AllReadyH.nil
    go_simp
    refine (CO.out _ (below_next W3.out t2.out.2)).mono ?_
    rintro e w4 ⟨rfl, kk⟩
    have t4 := Lib.hid (KeptB.next (Nat.le_refl _) t2.out kk)
    clear kk
    refine hK.out _ _ t4.out (fun hHeld => ?_)
    clear hK K
    try simp only [Act.put, List.setIfInBounds_toArray, List.set]
    refine wpAnyH_take (i := 8) (oi := _) (v := ?_) (by (simp only [List.getElem?_toArray]; rfl)) (by kernel_rfl) (by kernel_rfl) (by kernel_rfl) (by exact fun _ _ _ h => h) (Or.inl ⟨by rfl, ?_⟩) (by assumption) ?_
    rotate_left
    · intro wS hSw
      go_simp
      all_goals first | with_reducible rfl | rw [if_neg (by omega)]
    simp only [Act.put, List.setIfInBounds_toArray, List.set]
    refine wpAnyH_take (i := 9) (oi := _) (v := ?_) (by (simp only [List.getElem?_toArray]; rfl)) (by kernel_rfl) (by kernel_rfl) (by kernel_rfl) (by exact fun _ _ _ h => h) (Or.inl ⟨by rfl, ?_⟩) (by assumption) ?_
    rotate_left
    · intro wS hSw
      go_simp
      all_goals first | with_reducible rfl | rw [if_neg (by omega)]
    simp only [Act.put, List.setIfInBounds_toArray, List.set]
    refine wpAnyH_done (by kernel_rfl) ?_ _
    have O4 := Lib.hid (O3.out.below t4.out.2)
    have W4 := Lib.hid (below_next W3.out t4.out.2)
    have G4 := Lib.hid (carryN t4.out.2 G3.out)
    have A4 := Lib.hid (carryN t4.out.2 A3.out)
    clear t0 t1 t2 t4 O3 W3 A3 G3 cA lA cG lG hHeld
    have cA := cell_of_block A4.out
    have lA := lt_of_block A4.out
    have cG := cell_of_block G4.out
    have lG := lt_of_block G4.out
    cases ab with
    | false =>
      go_wp2_with fail
      refine wp_region_held_drew (S := fun w' => ((∀ b o, b < w4.heap.size → (w').cell? ⟨b, o, none⟩ = (w4).cell? ⟨b, o, none⟩) ∧ Below (w4.heap.size) (w4) (w'))) (by kernel_rfl) (KeptB.drew (KeptB.refl _ _)) (fun hHeld => ?_)
      refine wpAnyH_take (i := 0) (oi := _) (v := ?_) (by (simp only [List.getElem?_toArray]; rfl)) (by kernel_rfl) (by kernel_rfl) (by kernel_rfl) (by exact fun _ _ _ h => h) (Or.inl ⟨by rfl, ?_⟩) (by assumption) ?_
      rotate_left
      · intro wS hSw
        go_simp
        all_goals first | with_reducible rfl | rw [if_neg (by omega)]
      simp only [Act.put, List.setIfInBounds_toArray, List.set]
      refine wpAnyH_take (i := 1) (oi := _) (v := ?_) (by (simp only [List.getElem?_toArray]; rfl)) (by kernel_rfl) (by kernel_rfl) (by kernel_rfl) (by exact fun _ _ _ h => h) (Or.inl ⟨by rfl, ?_⟩) (by assumption) ?_
      rotate_left
      · intro wS hSw
        go_simp
        all_goals first | with_reducible rfl | rw [if_neg (by omega)]
      simp only [Act.put, List.setIfInBounds_toArray, List.set]
      have t0 := Lib.hid (KeptB.drew (KeptB.refl w4.heap.size w4))
      clear hHeld
      refine wpAnyH_ready (rs := [2]) (by kernel_rfl) (by simp) ?_
      refine AllReadyH.cons (o := _) (by (simp only [List.getElem?_toArray]; rfl)) (fun K hK => ?_) AllReadyH.nil
      go_simp
      refine (CS.out _ (below_next W4.out t0.out.2)).mono ?_
      rintro e u1 ⟨v1, rfl, ov1, kk⟩
      obtain ⟨p0, q0, p1, q1, p2, q2, rfl, o1⟩ := ov1.rows
      have t1 := Lib.hid (KeptB.next (Nat.le_refl _) t0.out kk)
      have Q1 := Lib.hid o1
      clear kk ov1 o1
      refine hK.out _ _ t1.out (fun hHeld => ?_)
      clear hK K
      try simp only [Act.put, List.setIfInBounds_toArray, List.set]
      clear hHeld
      refine wpAnyH_ready (rs := [3]) (by kernel_rfl) (by simp) ?_
      refine AllReadyH.cons (o := _) (by (simp only [List.getElem?_toArray]; rfl)) (fun K hK => ?_) AllReadyH.nil
      go_simp
      refine (wpGame_c y e0 e1 e2 p0 p1 p2 _ _ _ f0 f1 f2 q0 q1 q2 _ ((O4.out.below t1.out.2).e.sl five_len) ((O4.out.below t1.out.2).f.sl int_len) ((O4.out.below t1.out.2).l.sl int_len) (Q1.out.e.sl five_len) (Q1.out.f.sl int_len) (Q1.out.l.sl int_len)).mono ?_
      rintro e u2 ⟨rfl, kk⟩
      have t2 := Lib.hid (KeptB.next (Nat.le_refl _) t1.out kk)
      clear kk Q1
      refine hK.out _ _ t2.out (fun hHeld => ?_)
      clear hK K
      try simp only [Act.put, List.setIfInBounds_toArray, List.set]
      refine wpAnyH_take (i := 4) (oi := _) (v := ?_) (by (simp only [List.getElem?_toArray]; rfl)) (by kernel_rfl) (by kernel_rfl) (by kernel_rfl) (by exact fun _ _ _ h => h) (Or.inl ⟨by rfl, ?_⟩) (by assumption) ?_
      rotate_left
      · intro wS hSw
        go_simp
        all_goals first | with_reducible rfl | rw [if_neg (by omega)]
      simp only [Act.put, List.setIfInBounds_toArray, List.set]
      refine wpAnyH_done (by kernel_rfl) ?_ _
      have K5 := Lib.hid (below_next K1.out (below_next W4.out t2.out.2))
      clear t0 t1 t2 cG lG cA lA hHeld
      go_wp2_with fail
      go_ret
      exact ⟨rfl, K5.out⟩
    | true =>
      have HYG := Lib.hid (SG.out HAB.out.symm)
      have HGA := Lib.hid (GG.out HAB.out.symm)
      have hl41 : n0 + n1 ≤ 13 := by omega
      rw [HGA.out] at CG
      obtain ⟨y2, hy2⟩ : ∃ y2, y2 = gfold (z.dn ++ z.wt) := ⟨_, rfl⟩
      have HY2 := Lib.hid hy2
      rw [← hy2] at CG
      rw [← HYG.out] at CF
      clear hy2 HGA
      have cG := cell_of_block G4.out
      go_wp2_with fail
      refine wp_region_held_drew (S := fun w' => ((∀ b o, b < w4.heap.size → (w').cell? ⟨b, o, none⟩ = (w4).cell? ⟨b, o, none⟩) ∧ Below (w4.heap.size) (w4) (w'))) (by kernel_rfl) (KeptB.drew (KeptB.refl _ _)) (fun hHeld => ?_)
      refine wpAnyH_take (i := 0) (oi := _) (v := ?_) (by (simp only [List.getElem?_toArray]; rfl)) (by kernel_rfl) (by kernel_rfl) (by kernel_rfl) (by exact fun _ _ _ h => h) (Or.inl ⟨by rfl, ?_⟩) (by assumption) ?_
      rotate_left
      · intro wS hSw
        go_simp
        all_goals first | with_reducible rfl | rw [if_neg (by omega)]
      simp only [Act.put, List.setIfInBounds_toArray, List.set]
      refine wpAnyH_take (i := 1) (oi := _) (v := ?_) (by (simp only [List.getElem?_toArray]; rfl)) (by kernel_rfl) (by kernel_rfl) (by kernel_rfl) (by exact fun _ _ _ h => h) (Or.inl ⟨by rfl, ?_⟩) (by assumption) ?_
      rotate_left
      · intro wS hSw
        go_simp
        all_goals first | with_reducible rfl | rw [if_neg (by omega)]
      simp only [Act.put, List.setIfInBounds_toArray, List.set]
      refine wpAnyH_take (i := 2) (oi := _) (v := ?_) (by (simp only [List.getElem?_toArray]; rfl)) (by kernel_rfl) (by kernel_rfl) (by kernel_rfl) (by exact fun _ _ _ h => h) (Or.inl ⟨by rfl, ?_⟩) (by assumption) ?_
      rotate_left
      · intro wS hSw
        go_simp
        all_goals first | with_reducible rfl | rw [if_neg (by omega)]
      simp only [Act.put, List.setIfInBounds_toArray, List.set]
      have t0 := Lib.hid (KeptB.drew (KeptB.refl w4.heap.size w4))
      clear hHeld
      refine wpAnyH_ready (rs := [3]) (by kernel_rfl) (by simp) ?_
      refine AllReadyH.cons (o := _) (by (simp only [List.getElem?_toArray]; rfl)) (fun K hK => ?_) AllReadyH.nil
      go_simp
      refine (CF.out _ (below_next W4.out t0.out.2)).mono ?_
      rintro e u1 ⟨v1, rfl, ov1, kk⟩
      obtain ⟨p0, q0, p1, q1, p2, q2, rfl, o1⟩ := ov1.rows
      have t1 := Lib.hid (KeptB.next (Nat.le_refl _) t0.out kk)
      have Q1 := Lib.hid o1
      clear kk ov1 o1
      refine hK.out _ _ t1.out (fun hHeld => ?_)
      clear hK K
      try simp only [Act.put, List.setIfInBounds_toArray, List.set]
      clear hHeld
      refine wpAnyH_ready (rs := [4]) (by kernel_rfl) (by simp) ?_
      refine AllReadyH.cons (o := _) (by (simp only [List.getElem?_toArray]; rfl)) (fun K hK => ?_) AllReadyH.nil
      go_simp
      refine (wpGame_c y e0 e1 e2 p0 p1 p2 _ _ _ f0 f1 f2 q0 q1 q2 _ ((O4.out.below t1.out.2).e.sl five_len) ((O4.out.below t1.out.2).f.sl int_len) ((O4.out.below t1.out.2).l.sl int_len) (Q1.out.e.sl five_len) (Q1.out.f.sl int_len) (Q1.out.l.sl int_len)).mono ?_
      rintro e u2 ⟨rfl, kk⟩
      have t2 := Lib.hid (KeptB.next (Nat.le_refl _) t1.out kk)
      clear kk Q1
      refine hK.out _ _ t2.out (fun hHeld => ?_)
      clear hK K
      try simp only [Act.put, List.setIfInBounds_toArray, List.set]
      refine wpAnyH_take (i := 5) (oi := _) (v := ?_) (by (simp only [List.getElem?_toArray]; rfl)) (by kernel_rfl) (by kernel_rfl) (by kernel_rfl) (by exact fun _ _ _ h => h) (Or.inl ⟨by rfl, ?_⟩) (by assumption) ?_
      rotate_left
      · intro wS hSw
        go_simp
        all_goals first | with_reducible rfl | rw [if_neg (by omega)]
      simp only [Act.put, List.setIfInBounds_toArray, List.set]
      refine wpAnyH_take (i := 6) (oi := _) (v := ?_) (by (simp only [List.getElem?_toArray]; rfl)) (by kernel_rfl) (by kernel_rfl) (by kernel_rfl) (by exact fun _ _ _ h => h) (Or.inl ⟨by rfl, ?_⟩) (by assumption) ?_
      rotate_left
      · intro wS hSw
        go_simp
        all_goals first | with_reducible rfl | rw [if_neg (by omega)]
      simp only [Act.put, List.setIfInBounds_toArray, List.set]
      refine wpAnyH_take (i := 9) (oi := _) (v := ?_) (by (simp only [List.getElem?_toArray]; rfl)) (by kernel_rfl) (by kernel_rfl) (by kernel_rfl) (by exact fun _ _ _ h => h) (Or.inl ⟨by rfl, ?_⟩) (by assumption) ?_
      rotate_left
      · intro wS hSw
        go_simp
        all_goals first | with_reducible rfl | rw [if_neg (by omega)]
      simp only [Act.put, List.setIfInBounds_toArray, List.set]
      refine wpAnyH_take (i := 10) (oi := _) (v := ?_) (by (simp only [List.getElem?_toArray]; rfl)) (by kernel_rfl) (by kernel_rfl) (by kernel_rfl) (by exact fun _ _ _ h => h) (Or.inl ⟨by rfl, ?_⟩) (by assumption) ?_
      rotate_left
      · intro wS hSw
        go_simp
        all_goals first | with_reducible rfl | rw [if_neg (by omega)]
      simp only [Act.put, List.setIfInBounds_toArray, List.set]
      refine wpAnyH_take (i := 12) (oi := _) (v := ?_) (by (simp only [List.getElem?_toArray]; rfl)) (by kernel_rfl) (by kernel_rfl) (by kernel_rfl) (by exact fun _ _ _ h => h) (Or.inl ⟨by rfl, ?_⟩) (by assumption) ?_
      rotate_left
      · intro wS hSw
        go_simp
        all_goals first | with_reducible rfl | rw [if_neg (by omega)]
      simp only [Act.put, List.setIfInBounds_toArray, List.set]
      refine wpAnyH_take (i := 13) (oi := _) (v := ?_) (by (simp only [List.getElem?_toArray]; rfl)) (by kernel_rfl) (by kernel_rfl) (by kernel_rfl) (by exact fun _ _ _ h => h) (Or.inl ⟨by rfl, ?_⟩) (by assumption) ?_
      rotate_left
      · intro wS hSw
        go_simp
        all_goals first | with_reducible rfl | rw [if_neg (by omega)]
      simp only [Act.put, List.setIfInBounds_toArray, List.set]
      refine wpAnyH_ready (rs := [7, 8]) (by kernel_rfl) (by simp) ?_
      refine AllReadyH.cons (o := _) (by (simp only [List.getElem?_toArray]; rfl)) (fun K hK => ?_) ?_
      · skip
        clear hHeld
        go_simp
        refine (CG.out _ (below_next W4.out t2.out.2)).mono ?_
        rintro e wgt2 ⟨v, rfl, ov, kk⟩
        obtain ⟨p0, q0, p1, q1, p2, q2, rfl, o1⟩ := ov.rows
        have gt2 := Lib.hid (KeptB.next (Nat.le_refl _) t2.out kk)
        have QG := Lib.hid o1
        clear kk ov o1
        refine hK.out _ _ gt2.out (fun hHeld => ?_)
        clear hK K
        try simp only [Act.put, List.setIfInBounds_toArray, List.set]
        refine wpAnyH_ready (rs := [8]) (by kernel_rfl) (by simp) ?_
        refine AllReadyH.cons (o := _) (by (simp only [List.getElem?_toArray]; rfl)) (fun K hK => ?_) AllReadyH.nil
        clear hHeld
        refine step_build0G (by kernel_rfl) (by rfl) eltReq ?_
        have bgt2 := Lib.hid (KeptB.alloc (Nat.le_refl _) (.cells #[] 34) gt2.out)
        have QG' := Lib.hid (QG.out.below ((Below.refl _ _).alloc (Nat.le_refl _) (.cells #[] 34)))
        clear QG
        have QG := QG'
        clear QG'
        refine hK.out _ _ bgt2.out (fun hHeld => ?_)
        clear hK K
        try simp only [Act.put, List.setIfInBounds_toArray, List.set]
        refine wpAnyH_ready (rs := [11]) (by kernel_rfl) (by simp) ?_
        refine AllReadyH.cons (o := _) (by (simp only [List.getElem?_toArray]; rfl)) (fun K hK => ?_) AllReadyH.nil
        have AP := Lib.hid (QG.out.apartLow (Nat.le_refl _))
        clear hHeld
        refine step_append_newG w1.heap.size (by kernel_rfl) (.tmp 34) (.tmp 36) (by rfl) eltReq (by rfl) (by rfl) (S0.out.rowsAt (below_next W4.out bgt2.out.2)) HN0.out (by simp only [maxLen]; omega) (by omega) (below_next W4.out bgt2.out.2).size ?_
        intro b2 d2 wabgt2 q2
        have abgt2 := Lib.hid (KeptB.next (Nat.le_refl _) bgt2.out q2.below)
        have RA := Lib.hid q2.row
        have LA := Lib.hid q2.blk
        have SA := Lib.hid bgt2.out.2.size
        have QG' := Lib.hid (QG.out.below q2.below)
        clear QG
        have QG := QG'
        clear QG'
        clear q2
        refine hK.out _ _ abgt2.out (fun hHeld => ?_)
        clear hK K
        try simp only [Act.put, List.setIfInBounds_toArray, List.set]
        refine wpAnyH_ready (rs := [14]) (by kernel_rfl) (by simp) ?_
        refine AllReadyH.cons (o := _) (by (simp only [List.getElem?_toArray]; rfl)) (fun K hK => ?_) AllReadyH.nil
        clear hHeld
        refine step_append_eltG (by kernel_rfl) (.tmp 37) (.tmp 39) (by rfl) (n0 + n1) eltReq (by rfl) (by rfl) RA.out (S1.out.rowsAt (below_next W4.out abgt2.out.2)) HN0.out HN1.out rfl (by simp only [maxLen]; omega) (by omega) (below_next W4.out abgt2.out.2).size ?_
        intro b3 d3 wcabgt2 q3
        have hbl : ∀ g, rowBlk b2 d2 = some g → w4.heap.size ≤ g := fun g hg => by have := LA.out g hg; have := SA.out; omega
        have kq := q3.below (B' := w4.heap.size) abgt2.out.2.size hbl
        have cabgt2 := Lib.hid (KeptB.of (abgt2.out.2.trans kq))
        have RB := Lib.hid (q3.row.slG five_len (show (z.dn ++ z.wt).length = n0 + n1 by rw [List.length_append, HN0.out, HN1.out]))
        have QG' := Lib.hid (QG.out.keptM AP.out q3.grown (fun g hg => LA.out g hg))
        clear QG
        have QG := QG'
        clear QG'
        clear q3 kq hbl RA
        refine hK.out _ _ cabgt2.out (fun hHeld => ?_)
        clear hK K
        try simp only [Act.put, List.setIfInBounds_toArray, List.set]
        refine wpAnyH_ready (rs := [15]) (by kernel_rfl) (by simp) ?_
        refine AllReadyH.cons (o := _) (by (simp only [List.getElem?_toArray]; rfl)) (fun K hK => ?_) AllReadyH.nil
        clear hHeld
        go_simp
        refine (GameFold_c _ (n0 + n1) d3 (z.dn ++ z.wt) _ RB.out (by rw [List.length_append, HN0.out, HN1.out])).mono ?_
        rw [← HY2.out]
        rintro e wfcabgt2 ⟨v, rfl, ov, kk⟩
        obtain ⟨i0, j0, i1, j1, i2, j2, rfl, o5⟩ := ov.rows
        have fcabgt2 := Lib.hid (KeptB.next (Nat.le_refl _) cabgt2.out kk)
        have QF := Lib.hid o5
        have QG' := Lib.hid (QG.out.below kk)
        clear QG
        have QG := QG'
        clear QG'
        clear kk ov o5 RB
        refine hK.out _ _ fcabgt2.out (fun hHeld => ?_)
        clear hK K
        try simp only [Act.put, List.setIfInBounds_toArray, List.set]
        refine wpAnyH_ready (rs := [16]) (by kernel_rfl) (by simp) ?_
        refine AllReadyH.cons (o := _) (by (simp only [List.getElem?_toArray]; rfl)) (fun K hK => ?_) AllReadyH.nil
        clear hHeld
        go_simp
        refine (wpGame_c y2 p0 p1 p2 i0 i1 i2 _ _ _ _ _ _ _ _ _ _ (QG.out.e.sl five_len) (QG.out.f.sl int_len) (QG.out.l.sl int_len) (QF.out.e.sl five_len) (QF.out.f.sl int_len) (QF.out.l.sl int_len)).mono ?_
        rintro e wyfcabgt2 ⟨rfl, kk⟩
        have yfcabgt2 := Lib.hid (KeptB.next (Nat.le_refl _) fcabgt2.out kk)
        clear kk QG QF
        refine hK.out _ _ yfcabgt2.out (fun hHeld => ?_)
        clear hK K
        try simp only [Act.put, List.setIfInBounds_toArray, List.set]
        refine wpAnyH_take (i := 17) (oi := _) (v := ?_) (by (simp only [List.getElem?_toArray]; rfl)) (by kernel_rfl) (by kernel_rfl) (by kernel_rfl) (by exact fun _ _ _ h => h) (Or.inl ⟨by rfl, ?_⟩) (by assumption) ?_
        rotate_left
        · intro wS hSw
          go_simp
          all_goals first | with_reducible rfl | rw [if_neg (by omega)]
        simp only [Act.put, List.setIfInBounds_toArray, List.set]
        refine wpAnyH_take (i := 18) (oi := _) (v := ?_) (by (simp only [List.getElem?_toArray]; rfl)) (by kernel_rfl) (by kernel_rfl) (by kernel_rfl) (by exact fun _ _ _ h => h) (Or.inl ⟨by rfl, ?_⟩) (by assumption) ?_
        rotate_left
        · intro wS hSw
          go_simp
          all_goals first | with_reducible rfl | rw [if_neg (by omega)]
        simp only [Act.put, List.setIfInBounds_toArray, List.set]
        refine wpAnyH_done (by kernel_rfl) ?_ _
        have K5 := Lib.hid (below_next K1.out (below_next W4.out yfcabgt2.out.2))
        clear hHeld cA lA cG lG
        go_wp2_with fail
        go_ret
        exact ⟨rfl, K5.out⟩
      refine AllReadyH.cons (o := _) (by (simp only [List.getElem?_toArray]; rfl)) (fun K hK => ?_) ?_
      · skip
        clear hHeld
        refine step_build0G (by kernel_rfl) (by rfl) eltReq ?_
        have bt2 := Lib.hid (KeptB.alloc (Nat.le_refl _) (.cells #[] 34) t2.out)
        refine hK.out _ _ bt2.out (fun hHeld => ?_)
        clear hK K
        try simp only [Act.put, List.setIfInBounds_toArray, List.set]
        refine wpAnyH_ready (rs := [7]) (by kernel_rfl) (by simp) ?_
        refine AllReadyH.cons (o := _) (by (simp only [List.getElem?_toArray]; rfl)) (fun K hK => ?_) AllReadyH.nil
        clear hHeld
        go_simp
        refine (CG.out _ (below_next W4.out bt2.out.2)).mono ?_
        rintro e wgbt2 ⟨v, rfl, ov, kk⟩
        obtain ⟨p0, q0, p1, q1, p2, q2, rfl, o1⟩ := ov.rows
        have gbt2 := Lib.hid (KeptB.next (Nat.le_refl _) bt2.out kk)
        have QG := Lib.hid o1
        clear kk ov o1
        refine hK.out _ _ gbt2.out (fun hHeld => ?_)
        clear hK K
        try simp only [Act.put, List.setIfInBounds_toArray, List.set]
        refine wpAnyH_ready (rs := [11]) (by kernel_rfl) (by simp) ?_
        refine AllReadyH.cons (o := _) (by (simp only [List.getElem?_toArray]; rfl)) (fun K hK => ?_) AllReadyH.nil
        have AP := Lib.hid (QG.out.apartLow (Nat.le_refl _))
        clear hHeld
        refine step_append_newG w1.heap.size (by kernel_rfl) (.tmp 34) (.tmp 36) (by rfl) eltReq (by rfl) (by rfl) (S0.out.rowsAt (below_next W4.out gbt2.out.2)) HN0.out (by simp only [maxLen]; omega) (by omega) (below_next W4.out gbt2.out.2).size ?_
        intro b2 d2 wagbt2 q2
        have agbt2 := Lib.hid (KeptB.next (Nat.le_refl _) gbt2.out q2.below)
        have RA := Lib.hid q2.row
        have LA := Lib.hid q2.blk
        have SA := Lib.hid gbt2.out.2.size
        have QG' := Lib.hid (QG.out.below q2.below)
        clear QG
        have QG := QG'
        clear QG'
        clear q2
        refine hK.out _ _ agbt2.out (fun hHeld => ?_)
        clear hK K
        try simp only [Act.put, List.setIfInBounds_toArray, List.set]
        refine wpAnyH_ready (rs := [14]) (by kernel_rfl) (by simp) ?_
        refine AllReadyH.cons (o := _) (by (simp only [List.getElem?_toArray]; rfl)) (fun K hK => ?_) AllReadyH.nil
        clear hHeld
        refine step_append_eltG (by kernel_rfl) (.tmp 37) (.tmp 39) (by rfl) (n0 + n1) eltReq (by rfl) (by rfl) RA.out (S1.out.rowsAt (below_next W4.out agbt2.out.2)) HN0.out HN1.out rfl (by simp only [maxLen]; omega) (by omega) (below_next W4.out agbt2.out.2).size ?_
        intro b3 d3 wcagbt2 q3
        have hbl : ∀ g, rowBlk b2 d2 = some g → w4.heap.size ≤ g := fun g hg => by have := LA.out g hg; have := SA.out; omega
        have kq := q3.below (B' := w4.heap.size) agbt2.out.2.size hbl
        have cagbt2 := Lib.hid (KeptB.of (agbt2.out.2.trans kq))
        have RB := Lib.hid (q3.row.slG five_len (show (z.dn ++ z.wt).length = n0 + n1 by rw [List.length_append, HN0.out, HN1.out]))
        have QG' := Lib.hid (QG.out.keptM AP.out q3.grown (fun g hg => LA.out g hg))
        clear QG
        have QG := QG'
        clear QG'
        clear q3 kq hbl RA
        refine hK.out _ _ cagbt2.out (fun hHeld => ?_)
        clear hK K
        try simp only [Act.put, List.setIfInBounds_toArray, List.set]
        refine wpAnyH_ready (rs := [15]) (by kernel_rfl) (by simp) ?_
        refine AllReadyH.cons (o := _) (by (simp only [List.getElem?_toArray]; rfl)) (fun K hK => ?_) AllReadyH.nil
        clear hHeld
        go_simp
        refine (GameFold_c _ (n0 + n1) d3 (z.dn ++ z.wt) _ RB.out (by rw [List.length_append, HN0.out, HN1.out])).mono ?_
        rw [← HY2.out]
        rintro e wfcagbt2 ⟨v, rfl, ov, kk⟩
        obtain ⟨i0, j0, i1, j1, i2, j2, rfl, o5⟩ := ov.rows
        have fcagbt2 := Lib.hid (KeptB.next (Nat.le_refl _) cagbt2.out kk)
        have QF := Lib.hid o5
        have QG' := Lib.hid (QG.out.below kk)
        clear QG
        have QG := QG'
        clear QG'
        clear kk ov o5 RB
        refine hK.out _ _ fcagbt2.out (fun hHeld => ?_)
        clear hK K
        try simp only [Act.put, List.setIfInBounds_toArray, List.set]
        refine wpAnyH_ready (rs := [16]) (by kernel_rfl) (by simp) ?_
        refine AllReadyH.cons (o := _) (by (simp only [List.getElem?_toArray]; rfl)) (fun K hK => ?_) AllReadyH.nil
        clear hHeld
        go_simp
        refine (wpGame_c y2 p0 p1 p2 i0 i1 i2 _ _ _ _ _ _ _ _ _ _ (QG.out.e.sl five_len) (QG.out.f.sl int_len) (QG.out.l.sl int_len) (QF.out.e.sl five_len) (QF.out.f.sl int_len) (QF.out.l.sl int_len)).mono ?_
        rintro e wyfcagbt2 ⟨rfl, kk⟩
        have yfcagbt2 := Lib.hid (KeptB.next (Nat.le_refl _) fcagbt2.out kk)
        clear kk QG QF
        refine hK.out _ _ yfcagbt2.out (fun hHeld => ?_)
        clear hK K
        try simp only [Act.put, List.setIfInBounds_toArray, List.set]
        refine wpAnyH_take (i := 17) (oi := _) (v := ?_) (by (simp only [List.getElem?_toArray]; rfl)) (by kernel_rfl) (by kernel_rfl) (by kernel_rfl) (by exact fun _ _ _ h => h) (Or.inl ⟨by rfl, ?_⟩) (by assumption) ?_
        rotate_left
        · intro wS hSw
          go_simp
          all_goals first | with_reducible rfl | rw [if_neg (by omega)]
        simp only [Act.put, List.setIfInBounds_toArray, List.set]
        refine wpAnyH_take (i := 18) (oi := _) (v := ?_) (by (simp only [List.getElem?_toArray]; rfl)) (by kernel_rfl) (by kernel_rfl) (by kernel_rfl) (by exact fun _ _ _ h => h) (Or.inl ⟨by rfl, ?_⟩) (by assumption) ?_
        rotate_left
        · intro wS hSw
          go_simp
          all_goals first | with_reducible rfl | rw [if_neg (by omega)]
        simp only [Act.put, List.setIfInBounds_toArray, List.set]
        refine wpAnyH_done (by kernel_rfl) ?_ _
        have K5 := Lib.hid (below_next K1.out (below_next W4.out yfcagbt2.out.2))
        clear hHeld cA lA cG lG
        go_wp2_with fail
        go_ret
        exact ⟨rfl, K5.out⟩
      exact AllReadyH.nil
end Go.Proofs.Ytofedboeggdkaaa.fnAheadSure

/-! FnAheadSure: the law returns true for every input; no condition. -/
namespace Go.Proofs.Ytofedboeggdkaaa.fnAheadSure
open Go.ChangeShapes hiding open_int
open Go.WideShapes Go.ChangeAt Go.RowKit
open Go.ChangeMaps (shut_string)
set_option linter.unusedVariables false

theorem own : ownKnob Try.prog.godebug = none := by kernel_rfl
theorem laidOut : laidOutB Try.prog = true := by kernel_rfl

set_option maxRecDepth 100000 in
theorem lifted (os : Os) (started : os.Started) (H : Type) (enc : TypeId × Value → H) :
    ReturnsInHanded {} Try.checked os 13 .any (Rows.fnAheadSureSpec.pre6 enc Try.prog Try.f13 Rows.fnAheadSureRow.domain false) (Rows.fnAheadSureSpec.post enc Try.prog Try.f13 false true false false) := by
  refine returnsInHanded_of_change (C := Try.checked) own started (by kernel_rfl) Try.func13
    (ChangeSpec.witness6 (enc := enc) (C := Try.checked) false ⟨#[], #[.slice none 0 0], []⟩ 8 (by kernel_rfl) (by kernel_rfl) (by kernel_rfl) (by kernel_rfl)) ?_
  intro W base args ds gs before hval0 hW hcnd _
  have hval : ∀ (j : Nat) t v, Try.f13.params[j]? = some t → args[j]? = some v → Value.okWide Try.prog W .any base t v := hval0
  have hW' := hW
  obtain ⟨p, q, hA0, hV, rfl, hfz, hnd⟩ := hW
  have hA : DataW.TrodAll enc Try.prog W 0 (fun _ => true) true Try.f13.params.toList args.toList ds p := hA0
  rw [Try.params13] at hA hval
  obtain ⟨v0, vs0, d0, ds0, p0, q0, hargs, rfl, rfl, h0, r0⟩ := trodAll_cons hA
  obtain ⟨rfl, rfl, rfl⟩ := trodAll_nil r0
  obtain rfl : args = #[v0] := by cases args; simp_all
  obtain ⟨rfl, rfl⟩ := trodVars_none hV
  have lt0 : ∀ x ∈ p0, x.block < W.heap.size := by obtain ⟨m, hm⟩ := h0; exact DataW.trod_lt m _ _ _ hm
  obtain ⟨z0, o0⟩ := open_bytes (hval 0 39 v0 rfl rfl) h0
  clear hA0 hval0
  refine (walk v0 z0 W o0).mono fun e W' ⟨he, bel⟩ => ?_
  subst he
  exact ⟨_, rfl, _, _, _, [], _, [], hW', trodAll_mk1 (shut_bool Try.underlying4 _), (trodAll_cons_mk (Below.trod laidOut (by kernel_rfl) (of_decide_eq_true (by kernel_rfl)) h0 bel lt0) trodAll_mk0), rfl, bel.frame _, fun h => by cases h⟩

theorem over : Rows.fnAheadSureRow.holds Try.pinned (OpenSpec.ofChange Rows.fnAheadSureSpec) :=
  OpenClaim.holds_of_wide 13 Try.f13 rfl rfl rfl rfl rfl rfl rfl ⟨rfl, rfl, rfl, rfl, rfl⟩ rfl rfl rfl rfl rfl (by kernel_rfl) Try.func13 (by kernel_rfl)
    (of_decide_eq_true (by kernel_rfl)) (by unfold Func.isWrapper; first | (rw [if_pos (by decide +kernel)]; kernel_rfl) | (rw [if_neg (by decide +kernel)]; exact ⟨rfl, rfl⟩))
    (fun os started H enc _ => lifted os started H enc)

theorem proved : Rows.FnAheadSureSaid := over
end Go.Proofs.Ytofedboeggdkaaa.fnAheadSure
