/- Contract of DrawLedgerMeet: two lists of rows; no condition but a code of bytes. -/
import Derived.Test.YtbfnilfkhonpaaaDoorDrawLed
import Derived.Test.YtbfnilfkhonpaaaDoorFarI
namespace Go.Proofs.YtbfnilfkhonpaaaDoor
open Go.RowKit Go.Joins

/-- Two lists of rows, fourteen at most each. -/
def RowsTwo (w : World) (e : Ending) (w' : World) : Prop :=
  ∃ (xs ys : List En) (a : Option Addr) (c : Nat) (b : Option Addr) (d : Nat), e = .returned (.tuple #[.slice a xs.length c, .slice b ys.length d]) ∧ xs.length ≤ 14 ∧ ys.length ≤ 14 ∧ IsSl w' (.slice a xs.length c) 6 En.cs xs ∧ IsSl w' (.slice b ys.length d) 6 En.cs ys ∧ Below w.heap.size w w'

set_option maxRecDepth 100000 in
set_option maxHeartbeats 8000000 in
theorem DrawLedgerMeet_c (v : Value) (z : Bts) (w : World) (hz : IsBytes w v z) :
    Calls Tryd.prog 30 #[v] w (RowsTwo w) := by
  have HZ := Lib.hid hz
  clear hz
  go_enter Tryd.func30, Tryd.ntmps30
  go_wp2_with fail
  refine (l20Open_c v z _ HZ.out).mono ?_
  rintro e w1 ⟨g, rfl, hg, r1, k1⟩
  go_wp2_with fail
  refine (l20Reqs_c w1 g 0 10 r1 (by omega) (by omega)).mono ?_
  rintro e w2 ⟨rs, a1, c1, rfl, h10, -, hrow, r2, k2⟩
  have K2 := Lib.hid (bel_grown k1 k2 hg)
  have HG := Lib.hid hg
  have HBQ := Lib.hid (fun g' (hg' : rowBlk a1 c1 = some g') => (show g < g' by have := (hrow.blk hg').1; have := r1.lt; omega))
  have ROW2 := Lib.hid (hrow.low k1.size)
  obtain ⟨M, hM⟩ : ∃ M, M = rs.length := ⟨_, rfl⟩
  have HM := Lib.hid hM
  rw [← hM] at h10 ⊢
  clear hM hrow k1 k2
  go_wp2_with fail
  refine (pick_c w2 g _ (M + 1) r2 (by omega) (by omega)).mono ?_
  rintro e w3 ⟨i, rfl, a3, b3, -, r3, k3⟩
  replace b3 := b3 (by omega)
  obtain ⟨k, rfl⟩ := Int.eq_ofNat_of_zero_le a3
  have hkM : k ≤ M := by omega
  have HK0 := Lib.hid (bel_grown K2.out k3 HG.out)
  have RQ0 := Lib.hid (ROW2.out.kept k3 (fun g' hg' e => by have := HBQ.out g' hg'; injection e; omega))
  have hkc : (k : Int) ≤ (c1 : Int) := by have := RQ0.out.len; have := HM.out; omega
  have hk0 : (0 : Int) ≤ (k : Int) := by omega
  have RD0 := Lib.hid r3
  have HBRQ := HBQ
  clear k3 K2 ROW2 r2 r3 r1 b3 a3
  go_wp2_with fail
  have HK := Lib.hid (HK0.out.drew)
  have RQ := Lib.hid RQ0.out.drew
  have RD := Lib.hid (RD0.out.below (Below.drew (Below.refl _ _)))
  clear HK0 RQ0 RD0
  refine wp_region_held_drew (S := fun _ => True) (by kernel_rfl) trivial (fun _ => ?_)
  obtain ⟨u0, hu0⟩ : ∃ u, u = w3.drew := ⟨_, rfl⟩
  rw [← hu0] at HK RQ RD ⊢
  clear hu0
  refine wpAnyH_take (i := 1) (oi := _) (v := ?_) (by (simp only [List.getElem?_toArray]; rfl)) (by kernel_rfl) (by kernel_rfl) (by kernel_rfl) (by exact fun _ _ _ h => h) (Or.inl ⟨by rfl, ?_⟩) (by assumption) ?_
  rotate_left
  · intro wS hSw
    go_simp
    all_goals first | with_reducible rfl | rw [if_neg (by omega)]
  simp only [Act.put, List.setIfInBounds_toArray, List.set]
  refine wpAnyH_take (i := 2) (oi := _) (v := ?_) (by (simp only [List.getElem?_toArray]; rfl)) (by kernel_rfl) (by kernel_rfl) (by kernel_rfl) (by exact fun _ _ _ h => h) (Or.inl ⟨by rfl, ?_⟩) (by assumption) ?_
  rotate_left
  · intro wS hSw
    go_simp
    all_goals first | with_reducible rfl | rw [if_neg (by omega)]
  simp only [Act.put, List.setIfInBounds_toArray, List.set]
  refine wpAnyH_take (i := 3) (oi := _) (v := ?_) (by (simp only [List.getElem?_toArray]; rfl)) (by kernel_rfl) (by kernel_rfl) (by kernel_rfl) (by exact fun _ _ _ h => h) (Or.inl ⟨by rfl, ?_⟩) (by assumption) ?_
  rotate_left
  · intro wS hSw
    go_simp
    all_goals first | with_reducible rfl | rw [if_neg (by omega)]
  simp only [Act.put, List.setIfInBounds_toArray, List.set]
  refine wpAnyH_take (i := 5) (oi := _) (v := ?_) (by (simp only [List.getElem?_toArray]; rfl)) (by kernel_rfl) (by kernel_rfl) (by kernel_rfl) (by exact fun _ _ _ h => h) (Or.inl ⟨by rfl, ?_⟩) (by assumption) ?_
  rotate_left
  · intro wS hSw
    go_simp
    all_goals first | with_reducible rfl | rw [if_neg (by omega)]
  simp only [Act.put, List.setIfInBounds_toArray, List.set]
  refine wpAnyH_take (i := 10) (oi := _) (v := ?_) (by (simp only [List.getElem?_toArray]; rfl)) (by kernel_rfl) (by kernel_rfl) (by kernel_rfl) (by exact fun _ _ _ h => h) (Or.inl ⟨by rfl, ?_⟩) (by assumption) ?_
  rotate_left
  · intro wS hSw
    go_simp
    all_goals first | with_reducible rfl | rw [if_neg (by omega)]
  simp only [Act.put, List.setIfInBounds_toArray, List.set]
  refine wpAnyH_take (i := 11) (oi := _) (v := ?_) (by (simp only [List.getElem?_toArray]; rfl)) (by kernel_rfl) (by kernel_rfl) (by kernel_rfl) (by exact fun _ _ _ h => h) (Or.inl ⟨by rfl, ?_⟩) (by assumption) ?_
  rotate_left
  · intro wS hSw
    go_simp
    all_goals first | with_reducible rfl | rw [if_neg (by omega)]
  simp only [Act.put, List.setIfInBounds_toArray, List.set]
  refine wpAnyH_take (i := 12) (oi := _) (v := ?_) (by (simp only [List.getElem?_toArray]; rfl)) (by kernel_rfl) (by kernel_rfl) (by kernel_rfl) (by exact fun _ _ _ h => h) (Or.inl ⟨by rfl, ?_⟩) (by assumption) ?_
  rotate_left
  · intro wS hSw
    go_simp
    all_goals first | with_reducible rfl | rw [if_neg (by omega)]
  simp only [Act.put, List.setIfInBounds_toArray, List.set]
  refine wpAnyH_take (i := 14) (oi := _) (v := ?_) (by (simp only [List.getElem?_toArray]; rfl)) (by kernel_rfl) (by kernel_rfl) (by kernel_rfl) (by exact fun _ _ _ h => h) (Or.inl ⟨by rfl, ?_⟩) (by assumption) ?_
  rotate_left
  · intro wS hSw
    go_simp
    all_goals first | with_reducible rfl | rw [if_neg (by omega)]
  simp only [Act.put, List.setIfInBounds_toArray, List.set]
  refine wpAnyH_ready (rs := [0, 9]) (by kernel_rfl) (by simp) ?_
  refine AllReadyH.cons (o := _) (by (simp only [List.getElem?_toArray]; rfl)) (fun K hK => ?_) ?_
  · skip
    refine step_build0 (by rfl) (by rfl) eltReq ?_
    obtain ⟨u1, hX, sX, dW, kX⟩ := blocks1 u0 (.cells #[] 42)
    rw [← hX]
    clear hX dW sX
    replace HK := Lib.hid (below_next HK.out kX)
    replace RD := Lib.hid (RD.out.below (kX.mono (by have := RD.out.lt; omega)))
    replace RQ := Lib.hid (RQ.out.below kX)
    refine hK.out _ _ trivial (fun _ => ?_)
    clear hK K kX
    simp only [Act.put, List.setIfInBounds_toArray, List.set]
    refine wpAnyH_ready (rs := [4, 9]) (by kernel_rfl) (by simp) ?_
    refine AllReadyH.cons (o := _) (by (simp only [List.getElem?_toArray]; rfl)) (fun K hK => ?_) ?_
    · skip
      refine step_append_new (w.heap.size) (by rfl) (.tmp 16) (.tmp 19) (by rfl) eltReq (by rfl) (by rfl) ((RQ.out.rows five_len).taken (m := k)) (by rw [List.length_take, ← HM.out]; omega) (by simp only [maxLen]; omega) (by omega) HK.out.size ?_
      intro xA cA0 u2 q2
      have APARQ := Lib.hid (q2.apart RQ.out)
      have APAGL := Lib.hid (fun g' (hg' : rowBlk xA cA0 = some g') => (show g < g' by have := q2.blk g' hg'; have := RD.out.lt; omega))
      have kX := q2.below
      have XA := Lib.hid q2.row
      replace HK := Lib.hid (below_next HK.out kX)
      replace RD := Lib.hid (RD.out.below (kX.mono (by have := RD.out.lt; omega)))
      replace RQ := Lib.hid (RQ.out.below kX)
      clear q2
      refine hK.out _ _ trivial (fun _ => ?_)
      clear hK K kX
      simp only [Act.put, List.setIfInBounds_toArray, List.set]
      refine wpAnyH_ready (rs := [6, 9]) (by kernel_rfl) (by simp) ?_
      refine AllReadyH.cons (o := _) (by (simp only [List.getElem?_toArray]; rfl)) (fun K hK => ?_) ?_
      · skip
        go_simp
        refine (l20Reqs_c u2 g _ 4 RD.out (by omega) (by omega)).mono ?_
        rintro e u3 ⟨ysA, yA, cyA, rfl, h4, -, hrow, r3, k3⟩
        have LYA := Lib.hid h4
        obtain ⟨mA, hmA⟩ : ∃ m, m = ysA.length := ⟨_, rfl⟩
        have HMA := Lib.hid hmA
        rw [← hmA]
        clear hmA h4
        replace HK := Lib.hid (bel_grown HK.out k3 HG.out)
        replace RQ := Lib.hid (RQ.out.kept k3 (fun g' hg' e => by have := HBRQ.out g' hg'; injection e; omega))
        replace XA := Lib.hid (XA.out.kept k3 (fun g' hg' e => by have := APAGL.out g' hg'; injection e; omega))
        have YA := Lib.hid hrow
        replace RD := Lib.hid r3
        clear hrow r3 k3
        refine hK.out _ _ trivial (fun _ => ?_)
        clear hK K
        try simp only [Act.put, List.setIfInBounds_toArray, List.set]
        refine wpAnyH_ready (rs := [7, 9]) (by kernel_rfl) (by simp) ?_
        refine AllReadyH.cons (o := _) (by (simp only [List.getElem?_toArray]; rfl)) (fun K hK => ?_) ?_
        · skip
          have hmy := LYA.out
          rw [← HMA.out] at hmy
          refine step_append_elt (by rfl) (.tmp 20) (.tmp 22) (by rfl) (k + mA) eltReq (by rfl) (by rfl) XA.out (YA.out.rows five_len) (by rw [List.length_take, ← HM.out]; omega) HMA.out.symm rfl (by simp only [maxLen]; omega) (by omega) HK.out.size ?_
          intro zA czA u4 q4
          have ZA := Lib.hid q4.row
          replace HK := Lib.hid (q4.belowB XA.out HK.out (Nat.le_refl _) HK.out.size)
          replace RD := Lib.hid (RD.out.below (q4.below (by have := RD.out.lt; omega) (fun g' hg' => by have := APAGL.out g' hg'; omega)))
          replace RQ := Lib.hid (RQ.out.kept q4.grown (fun g' hg' e => APARQ.out g' e hg'))
          have LZA := Lib.hid (show (rs.take k ++ ysA).length = k + mA by rw [List.length_append, List.length_take, ← HMA.out, ← HM.out]; omega)
          clear q4
          refine hK.out _ _ trivial (fun _ => ?_)
          clear hK K
          simp only [Act.put, List.setIfInBounds_toArray, List.set]
          refine wpAnyH_ready (rs := [8, 9]) (by kernel_rfl) (by simp) ?_
          refine AllReadyH.cons (o := _) (by (simp only [List.getElem?_toArray]; rfl)) (fun K hK => ?_) ?_
          · skip
            go_simp
            refine (sLedgerOf_c zA (k + mA) czA (rs.take k ++ ysA) u4 (ZA.out.slE five_len LZA.out) (by omega)).mono ?_
            rintro e u5 ⟨dA, cA, rfl, rD, kX⟩
            have BA := Lib.hid (Nat.le_trans (ledOf_le (rs.take k ++ ysA)) (Nat.le_of_eq LZA.out))
            obtain ⟨xsA, hxs⟩ : ∃ xs, xs = ledOf (rs.take k ++ ysA) := ⟨_, rfl⟩
            rw [← hxs] at rD BA ⊢
            obtain ⟨lA, hlA⟩ : ∃ l, l = xsA.length := ⟨_, rfl⟩
            have LA := Lib.hid hlA
            rw [← hlA] at BA ⊢
            clear hxs hlA
            have HBDA := Lib.hid (fun g' (hg' : rowBlk dA cA = some g') => (show g < g' by have := (rD.blk hg').1; have := RD.out.lt; omega))
            have DA := Lib.hid rD
            replace HK := Lib.hid (below_next HK.out kX)
            replace RD := Lib.hid (RD.out.below (kX.mono (by have := RD.out.lt; omega)))
            replace RQ := Lib.hid (RQ.out.below kX)
            replace ZA := Lib.hid (ZA.out.below kX)
            clear rD
            refine hK.out _ _ trivial (fun _ => ?_)
            clear hK K kX
            try simp only [Act.put, List.setIfInBounds_toArray, List.set]
            refine wpAnyH_ready (rs := [9]) (by kernel_rfl) (by simp) ?_
            refine AllReadyH.cons (o := _) (by (simp only [List.getElem?_toArray]; rfl)) (fun K hK => ?_) AllReadyH.nil
            refine step_build0 (by rfl) (by rfl) eltReq ?_
            obtain ⟨u6, hX, sX, dW, kX⟩ := blocks1 u5 (.cells #[] 42)
            rw [← hX]
            clear hX dW sX
            replace HK := Lib.hid (below_next HK.out kX)
            replace RD := Lib.hid (RD.out.below (kX.mono (by have := RD.out.lt; omega)))
            replace RQ := Lib.hid (RQ.out.below kX)
            replace DA := Lib.hid (DA.out.below kX)
            refine hK.out _ _ trivial (fun _ => ?_)
            clear hK K kX
            simp only [Act.put, List.setIfInBounds_toArray, List.set]
            refine wpAnyH_ready (rs := [13]) (by kernel_rfl) (by simp) ?_
            refine AllReadyH.cons (o := _) (by (simp only [List.getElem?_toArray]; rfl)) (fun K hK => ?_) AllReadyH.nil
            refine step_append_new (w.heap.size) (by rfl) (.tmp 25) (.tmp 28) (by rfl) eltReq (by rfl) (by rfl) ((RQ.out.rows five_len).taken (m := k)) (by rw [List.length_take, ← HM.out]; omega) (by simp only [maxLen]; omega) (by omega) HK.out.size ?_
            intro xB cB0 u7 q7
            have APBRQ := Lib.hid (q7.apart RQ.out)
            have APBDA := Lib.hid (q7.apart DA.out)
            have APBGL := Lib.hid (fun g' (hg' : rowBlk xB cB0 = some g') => (show g < g' by have := q7.blk g' hg'; have := RD.out.lt; omega))
            have kX := q7.below
            have XB := Lib.hid q7.row
            replace HK := Lib.hid (below_next HK.out kX)
            replace RD := Lib.hid (RD.out.below (kX.mono (by have := RD.out.lt; omega)))
            replace RQ := Lib.hid (RQ.out.below kX)
            replace DA := Lib.hid (DA.out.below kX)
            clear q7
            refine hK.out _ _ trivial (fun _ => ?_)
            clear hK K kX
            simp only [Act.put, List.setIfInBounds_toArray, List.set]
            refine wpAnyH_ready (rs := [15]) (by kernel_rfl) (by simp) ?_
            refine AllReadyH.cons (o := _) (by (simp only [List.getElem?_toArray]; rfl)) (fun K hK => ?_) AllReadyH.nil
            go_simp
            refine (l20Reqs_c u7 g _ 4 RD.out (by omega) (by omega)).mono ?_
            rintro e u8 ⟨ysB, yB, cyB, rfl, h4, -, hrow, r8, k8⟩
            have LYB := Lib.hid h4
            obtain ⟨mB, hmB⟩ : ∃ m, m = ysB.length := ⟨_, rfl⟩
            have HMB := Lib.hid hmB
            rw [← hmB]
            clear hmB h4
            replace HK := Lib.hid (bel_grown HK.out k8 HG.out)
            replace RQ := Lib.hid (RQ.out.kept k8 (fun g' hg' e => by have := HBRQ.out g' hg'; injection e; omega))
            replace DA := Lib.hid (DA.out.kept k8 (fun g' hg' e => by have := HBDA.out g' hg'; injection e; omega))
            replace XB := Lib.hid (XB.out.kept k8 (fun g' hg' e => by have := APBGL.out g' hg'; injection e; omega))
            have YB := Lib.hid hrow
            replace RD := Lib.hid r8
            clear hrow r8 k8
            refine hK.out _ _ trivial (fun _ => ?_)
            clear hK K
            try simp only [Act.put, List.setIfInBounds_toArray, List.set]
            refine wpAnyH_ready (rs := [16]) (by kernel_rfl) (by simp) ?_
            refine AllReadyH.cons (o := _) (by (simp only [List.getElem?_toArray]; rfl)) (fun K hK => ?_) AllReadyH.nil
            have hmy := LYB.out
            rw [← HMB.out] at hmy
            refine step_append_elt (by rfl) (.tmp 29) (.tmp 31) (by rfl) (k + mB) eltReq (by rfl) (by rfl) XB.out (YB.out.rows five_len) (by rw [List.length_take, ← HM.out]; omega) HMB.out.symm rfl (by simp only [maxLen]; omega) (by omega) HK.out.size ?_
            intro zB czB u9 q9
            have ZB := Lib.hid q9.row
            replace HK := Lib.hid (q9.belowB XB.out HK.out (Nat.le_refl _) HK.out.size)
            replace RD := Lib.hid (RD.out.below (q9.below (by have := RD.out.lt; omega) (fun g' hg' => by have := APBGL.out g' hg'; omega)))
            replace RQ := Lib.hid (RQ.out.kept q9.grown (fun g' hg' e => APBRQ.out g' e hg'))
            replace DA := Lib.hid (DA.out.kept q9.grown (fun g' hg' e => APBDA.out g' e hg'))
            have LZB := Lib.hid (show (rs.take k ++ ysB).length = k + mB by rw [List.length_append, List.length_take, ← HMB.out, ← HM.out]; omega)
            clear q9
            refine hK.out _ _ trivial (fun _ => ?_)
            clear hK K
            simp only [Act.put, List.setIfInBounds_toArray, List.set]
            refine wpAnyH_ready (rs := [17]) (by kernel_rfl) (by simp) ?_
            refine AllReadyH.cons (o := _) (by (simp only [List.getElem?_toArray]; rfl)) (fun K hK => ?_) AllReadyH.nil
            go_simp
            refine (sLedgerOf_c zB (k + mB) czB (rs.take k ++ ysB) u9 (ZB.out.slE five_len LZB.out) (by omega)).mono ?_
            rintro e u10 ⟨dB, cB, rfl, rD, kX⟩
            have BB := Lib.hid (Nat.le_trans (ledOf_le (rs.take k ++ ysB)) (Nat.le_of_eq LZB.out))
            obtain ⟨xsB, hxs⟩ : ∃ xs, xs = ledOf (rs.take k ++ ysB) := ⟨_, rfl⟩
            rw [← hxs] at rD BB ⊢
            obtain ⟨lB, hlB⟩ : ∃ l, l = xsB.length := ⟨_, rfl⟩
            have LB := Lib.hid hlB
            rw [← hlB] at BB ⊢
            clear hxs hlB
            have HBDB := Lib.hid (fun g' (hg' : rowBlk dB cB = some g') => (show g < g' by have := (rD.blk hg').1; have := RD.out.lt; omega))
            have DB := Lib.hid rD
            replace HK := Lib.hid (below_next HK.out kX)
            replace RD := Lib.hid (RD.out.below (kX.mono (by have := RD.out.lt; omega)))
            replace RQ := Lib.hid (RQ.out.below kX)
            replace DA := Lib.hid (DA.out.below kX)
            replace ZB := Lib.hid (ZB.out.below kX)
            clear rD
            refine hK.out _ _ trivial (fun _ => ?_)
            clear hK K kX
            try simp only [Act.put, List.setIfInBounds_toArray, List.set]
            refine wpAnyH_take (i := 18) (oi := _) (v := ?_) (by (simp only [List.getElem?_toArray]; rfl)) (by kernel_rfl) (by kernel_rfl) (by kernel_rfl) (by exact fun _ _ _ h => h) (Or.inl ⟨by rfl, ?_⟩) (by assumption) ?_
            rotate_left
            · intro wS hSw
              go_simp
              all_goals first | with_reducible rfl | rw [if_neg (by omega)]
            simp only [Act.put, List.setIfInBounds_toArray, List.set]
            refine wpAnyH_take (i := 19) (oi := _) (v := ?_) (by (simp only [List.getElem?_toArray]; rfl)) (by kernel_rfl) (by kernel_rfl) (by kernel_rfl) (by exact fun _ _ _ h => h) (Or.inl ⟨by rfl, ?_⟩) (by assumption) ?_
            rotate_left
            · intro wS hSw
              go_simp
              all_goals first | with_reducible rfl | rw [if_neg (by omega)]
            simp only [Act.put, List.setIfInBounds_toArray, List.set]
            refine wpAnyH_done (by kernel_rfl) ?_ _
            go_wp2_with fail
            refine bodyPost_ret (v := .tuple #[.slice dA lA cA, .slice dB lB cB]) (by simp [results, Tryd.results30, go_sem]) rfl ?_
            exact ⟨xsA, xsB, dA, cA, dB, cB, by rw [LA.out, LB.out], by have := LA.out; have := BA.out; omega, by have := LB.out; have := BB.out; omega, DA.out.sl six_len, DB.out.sl six_len, HK.out⟩
          refine AllReadyH.cons (o := _) (by (simp only [List.getElem?_toArray]; rfl)) (fun K hK => ?_) ?_
          · skip
            refine step_build0 (by rfl) (by rfl) eltReq ?_
            obtain ⟨u11, hX, sX, dW, kX⟩ := blocks1 u4 (.cells #[] 42)
            rw [← hX]
            clear hX dW sX
            replace HK := Lib.hid (below_next HK.out kX)
            replace RD := Lib.hid (RD.out.below (kX.mono (by have := RD.out.lt; omega)))
            replace RQ := Lib.hid (RQ.out.below kX)
            replace ZA := Lib.hid (ZA.out.below kX)
            refine hK.out _ _ trivial (fun _ => ?_)
            clear hK K kX
            simp only [Act.put, List.setIfInBounds_toArray, List.set]
            refine wpAnyH_ready (rs := [8]) (by kernel_rfl) (by simp) ?_
            refine AllReadyH.cons (o := _) (by (simp only [List.getElem?_toArray]; rfl)) (fun K hK => ?_) AllReadyH.nil
            go_simp
            refine (sLedgerOf_c zA (k + mA) czA (rs.take k ++ ysA) u11 (ZA.out.slE five_len LZA.out) (by omega)).mono ?_
            rintro e u12 ⟨dA, cA, rfl, rD, kX⟩
            have BA := Lib.hid (Nat.le_trans (ledOf_le (rs.take k ++ ysA)) (Nat.le_of_eq LZA.out))
            obtain ⟨xsA, hxs⟩ : ∃ xs, xs = ledOf (rs.take k ++ ysA) := ⟨_, rfl⟩
            rw [← hxs] at rD BA ⊢
            obtain ⟨lA, hlA⟩ : ∃ l, l = xsA.length := ⟨_, rfl⟩
            have LA := Lib.hid hlA
            rw [← hlA] at BA ⊢
            clear hxs hlA
            have HBDA := Lib.hid (fun g' (hg' : rowBlk dA cA = some g') => (show g < g' by have := (rD.blk hg').1; have := RD.out.lt; omega))
            have DA := Lib.hid rD
            replace HK := Lib.hid (below_next HK.out kX)
            replace RD := Lib.hid (RD.out.below (kX.mono (by have := RD.out.lt; omega)))
            replace RQ := Lib.hid (RQ.out.below kX)
            replace ZA := Lib.hid (ZA.out.below kX)
            clear rD
            refine hK.out _ _ trivial (fun _ => ?_)
            clear hK K kX
            try simp only [Act.put, List.setIfInBounds_toArray, List.set]
            refine wpAnyH_ready (rs := [13]) (by kernel_rfl) (by simp) ?_
            refine AllReadyH.cons (o := _) (by (simp only [List.getElem?_toArray]; rfl)) (fun K hK => ?_) AllReadyH.nil
            refine step_append_new (w.heap.size) (by rfl) (.tmp 25) (.tmp 28) (by rfl) eltReq (by rfl) (by rfl) ((RQ.out.rows five_len).taken (m := k)) (by rw [List.length_take, ← HM.out]; omega) (by simp only [maxLen]; omega) (by omega) HK.out.size ?_
            intro xB cB0 u13 q13
            have APBRQ := Lib.hid (q13.apart RQ.out)
            have APBDA := Lib.hid (q13.apart DA.out)
            have APBGL := Lib.hid (fun g' (hg' : rowBlk xB cB0 = some g') => (show g < g' by have := q13.blk g' hg'; have := RD.out.lt; omega))
            have kX := q13.below
            have XB := Lib.hid q13.row
            replace HK := Lib.hid (below_next HK.out kX)
            replace RD := Lib.hid (RD.out.below (kX.mono (by have := RD.out.lt; omega)))
            replace RQ := Lib.hid (RQ.out.below kX)
            replace DA := Lib.hid (DA.out.below kX)
            clear q13
            refine hK.out _ _ trivial (fun _ => ?_)
            clear hK K kX
            simp only [Act.put, List.setIfInBounds_toArray, List.set]
            refine wpAnyH_ready (rs := [15]) (by kernel_rfl) (by simp) ?_
            refine AllReadyH.cons (o := _) (by (simp only [List.getElem?_toArray]; rfl)) (fun K hK => ?_) AllReadyH.nil
            go_simp
            refine (l20Reqs_c u13 g _ 4 RD.out (by omega) (by omega)).mono ?_
            rintro e u14 ⟨ysB, yB, cyB, rfl, h4, -, hrow, r14, k14⟩
            have LYB := Lib.hid h4
            obtain ⟨mB, hmB⟩ : ∃ m, m = ysB.length := ⟨_, rfl⟩
            have HMB := Lib.hid hmB
            rw [← hmB]
            clear hmB h4
            replace HK := Lib.hid (bel_grown HK.out k14 HG.out)
            replace RQ := Lib.hid (RQ.out.kept k14 (fun g' hg' e => by have := HBRQ.out g' hg'; injection e; omega))
            replace DA := Lib.hid (DA.out.kept k14 (fun g' hg' e => by have := HBDA.out g' hg'; injection e; omega))
            replace XB := Lib.hid (XB.out.kept k14 (fun g' hg' e => by have := APBGL.out g' hg'; injection e; omega))
            have YB := Lib.hid hrow
            replace RD := Lib.hid r14
            clear hrow r14 k14
            refine hK.out _ _ trivial (fun _ => ?_)
            clear hK K
            try simp only [Act.put, List.setIfInBounds_toArray, List.set]
            refine wpAnyH_ready (rs := [16]) (by kernel_rfl) (by simp) ?_
            refine AllReadyH.cons (o := _) (by (simp only [List.getElem?_toArray]; rfl)) (fun K hK => ?_) AllReadyH.nil
            have hmy := LYB.out
            rw [← HMB.out] at hmy
            refine step_append_elt (by rfl) (.tmp 29) (.tmp 31) (by rfl) (k + mB) eltReq (by rfl) (by rfl) XB.out (YB.out.rows five_len) (by rw [List.length_take, ← HM.out]; omega) HMB.out.symm rfl (by simp only [maxLen]; omega) (by omega) HK.out.size ?_
            intro zB czB u15 q15
            have ZB := Lib.hid q15.row
            replace HK := Lib.hid (q15.belowB XB.out HK.out (Nat.le_refl _) HK.out.size)
            replace RD := Lib.hid (RD.out.below (q15.below (by have := RD.out.lt; omega) (fun g' hg' => by have := APBGL.out g' hg'; omega)))
            replace RQ := Lib.hid (RQ.out.kept q15.grown (fun g' hg' e => APBRQ.out g' e hg'))
            replace DA := Lib.hid (DA.out.kept q15.grown (fun g' hg' e => APBDA.out g' e hg'))
            have LZB := Lib.hid (show (rs.take k ++ ysB).length = k + mB by rw [List.length_append, List.length_take, ← HMB.out, ← HM.out]; omega)
            clear q15
            refine hK.out _ _ trivial (fun _ => ?_)
            clear hK K
            simp only [Act.put, List.setIfInBounds_toArray, List.set]
            refine wpAnyH_ready (rs := [17]) (by kernel_rfl) (by simp) ?_
            refine AllReadyH.cons (o := _) (by (simp only [List.getElem?_toArray]; rfl)) (fun K hK => ?_) AllReadyH.nil
            go_simp
            refine (sLedgerOf_c zB (k + mB) czB (rs.take k ++ ysB) u15 (ZB.out.slE five_len LZB.out) (by omega)).mono ?_
            rintro e u16 ⟨dB, cB, rfl, rD, kX⟩
            have BB := Lib.hid (Nat.le_trans (ledOf_le (rs.take k ++ ysB)) (Nat.le_of_eq LZB.out))
            obtain ⟨xsB, hxs⟩ : ∃ xs, xs = ledOf (rs.take k ++ ysB) := ⟨_, rfl⟩
            rw [← hxs] at rD BB ⊢
            obtain ⟨lB, hlB⟩ : ∃ l, l = xsB.length := ⟨_, rfl⟩
            have LB := Lib.hid hlB
            rw [← hlB] at BB ⊢
            clear hxs hlB
            have HBDB := Lib.hid (fun g' (hg' : rowBlk dB cB = some g') => (show g < g' by have := (rD.blk hg').1; have := RD.out.lt; omega))
            have DB := Lib.hid rD
            replace HK := Lib.hid (below_next HK.out kX)
            replace RD := Lib.hid (RD.out.below (kX.mono (by have := RD.out.lt; omega)))
            replace RQ := Lib.hid (RQ.out.below kX)
            replace DA := Lib.hid (DA.out.below kX)
            replace ZB := Lib.hid (ZB.out.below kX)
            clear rD
            refine hK.out _ _ trivial (fun _ => ?_)
            clear hK K kX
            try simp only [Act.put, List.setIfInBounds_toArray, List.set]
            refine wpAnyH_take (i := 18) (oi := _) (v := ?_) (by (simp only [List.getElem?_toArray]; rfl)) (by kernel_rfl) (by kernel_rfl) (by kernel_rfl) (by exact fun _ _ _ h => h) (Or.inl ⟨by rfl, ?_⟩) (by assumption) ?_
            rotate_left
            · intro wS hSw
              go_simp
              all_goals first | with_reducible rfl | rw [if_neg (by omega)]
            simp only [Act.put, List.setIfInBounds_toArray, List.set]
            refine wpAnyH_take (i := 19) (oi := _) (v := ?_) (by (simp only [List.getElem?_toArray]; rfl)) (by kernel_rfl) (by kernel_rfl) (by kernel_rfl) (by exact fun _ _ _ h => h) (Or.inl ⟨by rfl, ?_⟩) (by assumption) ?_
            rotate_left
            · intro wS hSw
              go_simp
              all_goals first | with_reducible rfl | rw [if_neg (by omega)]
            simp only [Act.put, List.setIfInBounds_toArray, List.set]
            refine wpAnyH_done (by kernel_rfl) ?_ _
            go_wp2_with fail
            refine bodyPost_ret (v := .tuple #[.slice dA lA cA, .slice dB lB cB]) (by simp [results, Tryd.results30, go_sem]) rfl ?_
            exact ⟨xsA, xsB, dA, cA, dB, cB, by rw [LA.out, LB.out], by have := LA.out; have := BA.out; omega, by have := LB.out; have := BB.out; omega, DA.out.sl six_len, DB.out.sl six_len, HK.out⟩
          exact AllReadyH.nil
        refine AllReadyH.cons (o := _) (by (simp only [List.getElem?_toArray]; rfl)) (fun K hK => ?_) ?_
        · skip
          refine step_build0 (by rfl) (by rfl) eltReq ?_
          obtain ⟨u17, hX, sX, dW, kX⟩ := blocks1 u3 (.cells #[] 42)
          rw [← hX]
          clear hX dW sX
          replace HK := Lib.hid (below_next HK.out kX)
          replace RD := Lib.hid (RD.out.below (kX.mono (by have := RD.out.lt; omega)))
          replace RQ := Lib.hid (RQ.out.below kX)
          replace XA := Lib.hid (XA.out.below kX)
          replace YA := Lib.hid (YA.out.below kX)
          refine hK.out _ _ trivial (fun _ => ?_)
          clear hK K kX
          simp only [Act.put, List.setIfInBounds_toArray, List.set]
          refine wpAnyH_ready (rs := [7]) (by kernel_rfl) (by simp) ?_
          refine AllReadyH.cons (o := _) (by (simp only [List.getElem?_toArray]; rfl)) (fun K hK => ?_) AllReadyH.nil
          have hmy := LYA.out
          rw [← HMA.out] at hmy
          refine step_append_elt (by rfl) (.tmp 20) (.tmp 22) (by rfl) (k + mA) eltReq (by rfl) (by rfl) XA.out (YA.out.rows five_len) (by rw [List.length_take, ← HM.out]; omega) HMA.out.symm rfl (by simp only [maxLen]; omega) (by omega) HK.out.size ?_
          intro zA czA u18 q18
          have ZA := Lib.hid q18.row
          replace HK := Lib.hid (q18.belowB XA.out HK.out (Nat.le_refl _) HK.out.size)
          replace RD := Lib.hid (RD.out.below (q18.below (by have := RD.out.lt; omega) (fun g' hg' => by have := APAGL.out g' hg'; omega)))
          replace RQ := Lib.hid (RQ.out.kept q18.grown (fun g' hg' e => APARQ.out g' e hg'))
          have LZA := Lib.hid (show (rs.take k ++ ysA).length = k + mA by rw [List.length_append, List.length_take, ← HMA.out, ← HM.out]; omega)
          clear q18
          refine hK.out _ _ trivial (fun _ => ?_)
          clear hK K
          simp only [Act.put, List.setIfInBounds_toArray, List.set]
          refine wpAnyH_ready (rs := [8]) (by kernel_rfl) (by simp) ?_
          refine AllReadyH.cons (o := _) (by (simp only [List.getElem?_toArray]; rfl)) (fun K hK => ?_) AllReadyH.nil
          go_simp
          refine (sLedgerOf_c zA (k + mA) czA (rs.take k ++ ysA) u18 (ZA.out.slE five_len LZA.out) (by omega)).mono ?_
          rintro e u19 ⟨dA, cA, rfl, rD, kX⟩
          have BA := Lib.hid (Nat.le_trans (ledOf_le (rs.take k ++ ysA)) (Nat.le_of_eq LZA.out))
          obtain ⟨xsA, hxs⟩ : ∃ xs, xs = ledOf (rs.take k ++ ysA) := ⟨_, rfl⟩
          rw [← hxs] at rD BA ⊢
          obtain ⟨lA, hlA⟩ : ∃ l, l = xsA.length := ⟨_, rfl⟩
          have LA := Lib.hid hlA
          rw [← hlA] at BA ⊢
          clear hxs hlA
          have HBDA := Lib.hid (fun g' (hg' : rowBlk dA cA = some g') => (show g < g' by have := (rD.blk hg').1; have := RD.out.lt; omega))
          have DA := Lib.hid rD
          replace HK := Lib.hid (below_next HK.out kX)
          replace RD := Lib.hid (RD.out.below (kX.mono (by have := RD.out.lt; omega)))
          replace RQ := Lib.hid (RQ.out.below kX)
          replace ZA := Lib.hid (ZA.out.below kX)
          clear rD
          refine hK.out _ _ trivial (fun _ => ?_)
          clear hK K kX
          try simp only [Act.put, List.setIfInBounds_toArray, List.set]
          refine wpAnyH_ready (rs := [13]) (by kernel_rfl) (by simp) ?_
          refine AllReadyH.cons (o := _) (by (simp only [List.getElem?_toArray]; rfl)) (fun K hK => ?_) AllReadyH.nil
          refine step_append_new (w.heap.size) (by rfl) (.tmp 25) (.tmp 28) (by rfl) eltReq (by rfl) (by rfl) ((RQ.out.rows five_len).taken (m := k)) (by rw [List.length_take, ← HM.out]; omega) (by simp only [maxLen]; omega) (by omega) HK.out.size ?_
          intro xB cB0 u20 q20
          have APBRQ := Lib.hid (q20.apart RQ.out)
          have APBDA := Lib.hid (q20.apart DA.out)
          have APBGL := Lib.hid (fun g' (hg' : rowBlk xB cB0 = some g') => (show g < g' by have := q20.blk g' hg'; have := RD.out.lt; omega))
          have kX := q20.below
          have XB := Lib.hid q20.row
          replace HK := Lib.hid (below_next HK.out kX)
          replace RD := Lib.hid (RD.out.below (kX.mono (by have := RD.out.lt; omega)))
          replace RQ := Lib.hid (RQ.out.below kX)
          replace DA := Lib.hid (DA.out.below kX)
          clear q20
          refine hK.out _ _ trivial (fun _ => ?_)
          clear hK K kX
          simp only [Act.put, List.setIfInBounds_toArray, List.set]
          refine wpAnyH_ready (rs := [15]) (by kernel_rfl) (by simp) ?_
          refine AllReadyH.cons (o := _) (by (simp only [List.getElem?_toArray]; rfl)) (fun K hK => ?_) AllReadyH.nil
          go_simp
          refine (l20Reqs_c u20 g _ 4 RD.out (by omega) (by omega)).mono ?_
          rintro e u21 ⟨ysB, yB, cyB, rfl, h4, -, hrow, r21, k21⟩
          have LYB := Lib.hid h4
          obtain ⟨mB, hmB⟩ : ∃ m, m = ysB.length := ⟨_, rfl⟩
          have HMB := Lib.hid hmB
          rw [← hmB]
          clear hmB h4
          replace HK := Lib.hid (bel_grown HK.out k21 HG.out)
          replace RQ := Lib.hid (RQ.out.kept k21 (fun g' hg' e => by have := HBRQ.out g' hg'; injection e; omega))
          replace DA := Lib.hid (DA.out.kept k21 (fun g' hg' e => by have := HBDA.out g' hg'; injection e; omega))
          replace XB := Lib.hid (XB.out.kept k21 (fun g' hg' e => by have := APBGL.out g' hg'; injection e; omega))
          have YB := Lib.hid hrow
          replace RD := Lib.hid r21
          clear hrow r21 k21
          refine hK.out _ _ trivial (fun _ => ?_)
          clear hK K
          try simp only [Act.put, List.setIfInBounds_toArray, List.set]
          refine wpAnyH_ready (rs := [16]) (by kernel_rfl) (by simp) ?_
          refine AllReadyH.cons (o := _) (by (simp only [List.getElem?_toArray]; rfl)) (fun K hK => ?_) AllReadyH.nil
          have hmy := LYB.out
          rw [← HMB.out] at hmy
          refine step_append_elt (by rfl) (.tmp 29) (.tmp 31) (by rfl) (k + mB) eltReq (by rfl) (by rfl) XB.out (YB.out.rows five_len) (by rw [List.length_take, ← HM.out]; omega) HMB.out.symm rfl (by simp only [maxLen]; omega) (by omega) HK.out.size ?_
          intro zB czB u22 q22
          have ZB := Lib.hid q22.row
          replace HK := Lib.hid (q22.belowB XB.out HK.out (Nat.le_refl _) HK.out.size)
          replace RD := Lib.hid (RD.out.below (q22.below (by have := RD.out.lt; omega) (fun g' hg' => by have := APBGL.out g' hg'; omega)))
          replace RQ := Lib.hid (RQ.out.kept q22.grown (fun g' hg' e => APBRQ.out g' e hg'))
          replace DA := Lib.hid (DA.out.kept q22.grown (fun g' hg' e => APBDA.out g' e hg'))
          have LZB := Lib.hid (show (rs.take k ++ ysB).length = k + mB by rw [List.length_append, List.length_take, ← HMB.out, ← HM.out]; omega)
          clear q22
          refine hK.out _ _ trivial (fun _ => ?_)
          clear hK K
          simp only [Act.put, List.setIfInBounds_toArray, List.set]
          refine wpAnyH_ready (rs := [17]) (by kernel_rfl) (by simp) ?_
          refine AllReadyH.cons (o := _) (by (simp only [List.getElem?_toArray]; rfl)) (fun K hK => ?_) AllReadyH.nil
          go_simp
          refine (sLedgerOf_c zB (k + mB) czB (rs.take k ++ ysB) u22 (ZB.out.slE five_len LZB.out) (by omega)).mono ?_
          rintro e u23 ⟨dB, cB, rfl, rD, kX⟩
          have BB := Lib.hid (Nat.le_trans (ledOf_le (rs.take k ++ ysB)) (Nat.le_of_eq LZB.out))
          obtain ⟨xsB, hxs⟩ : ∃ xs, xs = ledOf (rs.take k ++ ysB) := ⟨_, rfl⟩
          rw [← hxs] at rD BB ⊢
          obtain ⟨lB, hlB⟩ : ∃ l, l = xsB.length := ⟨_, rfl⟩
          have LB := Lib.hid hlB
          rw [← hlB] at BB ⊢
          clear hxs hlB
          have HBDB := Lib.hid (fun g' (hg' : rowBlk dB cB = some g') => (show g < g' by have := (rD.blk hg').1; have := RD.out.lt; omega))
          have DB := Lib.hid rD
          replace HK := Lib.hid (below_next HK.out kX)
          replace RD := Lib.hid (RD.out.below (kX.mono (by have := RD.out.lt; omega)))
          replace RQ := Lib.hid (RQ.out.below kX)
          replace DA := Lib.hid (DA.out.below kX)
          replace ZB := Lib.hid (ZB.out.below kX)
          clear rD
          refine hK.out _ _ trivial (fun _ => ?_)
          clear hK K kX
          try simp only [Act.put, List.setIfInBounds_toArray, List.set]
          refine wpAnyH_take (i := 18) (oi := _) (v := ?_) (by (simp only [List.getElem?_toArray]; rfl)) (by kernel_rfl) (by kernel_rfl) (by kernel_rfl) (by exact fun _ _ _ h => h) (Or.inl ⟨by rfl, ?_⟩) (by assumption) ?_
          rotate_left
          · intro wS hSw
            go_simp
            all_goals first | with_reducible rfl | rw [if_neg (by omega)]
          simp only [Act.put, List.setIfInBounds_toArray, List.set]
          refine wpAnyH_take (i := 19) (oi := _) (v := ?_) (by (simp only [List.getElem?_toArray]; rfl)) (by kernel_rfl) (by kernel_rfl) (by kernel_rfl) (by exact fun _ _ _ h => h) (Or.inl ⟨by rfl, ?_⟩) (by assumption) ?_
          rotate_left
          · intro wS hSw
            go_simp
            all_goals first | with_reducible rfl | rw [if_neg (by omega)]
          simp only [Act.put, List.setIfInBounds_toArray, List.set]
          refine wpAnyH_done (by kernel_rfl) ?_ _
          go_wp2_with fail
          refine bodyPost_ret (v := .tuple #[.slice dA lA cA, .slice dB lB cB]) (by simp [results, Tryd.results30, go_sem]) rfl ?_
          exact ⟨xsA, xsB, dA, cA, dB, cB, by rw [LA.out, LB.out], by have := LA.out; have := BA.out; omega, by have := LB.out; have := BB.out; omega, DA.out.sl six_len, DB.out.sl six_len, HK.out⟩
        exact AllReadyH.nil
      refine AllReadyH.cons (o := _) (by (simp only [List.getElem?_toArray]; rfl)) (fun K hK => ?_) ?_
      · skip
        refine step_build0 (by rfl) (by rfl) eltReq ?_
        obtain ⟨u24, hX, sX, dW, kX⟩ := blocks1 u2 (.cells #[] 42)
        rw [← hX]
        clear hX dW sX
        replace HK := Lib.hid (below_next HK.out kX)
        replace RD := Lib.hid (RD.out.below (kX.mono (by have := RD.out.lt; omega)))
        replace RQ := Lib.hid (RQ.out.below kX)
        replace XA := Lib.hid (XA.out.below kX)
        refine hK.out _ _ trivial (fun _ => ?_)
        clear hK K kX
        simp only [Act.put, List.setIfInBounds_toArray, List.set]
        refine wpAnyH_ready (rs := [6]) (by kernel_rfl) (by simp) ?_
        refine AllReadyH.cons (o := _) (by (simp only [List.getElem?_toArray]; rfl)) (fun K hK => ?_) AllReadyH.nil
        go_simp
        refine (l20Reqs_c u24 g _ 4 RD.out (by omega) (by omega)).mono ?_
        rintro e u25 ⟨ysA, yA, cyA, rfl, h4, -, hrow, r25, k25⟩
        have LYA := Lib.hid h4
        obtain ⟨mA, hmA⟩ : ∃ m, m = ysA.length := ⟨_, rfl⟩
        have HMA := Lib.hid hmA
        rw [← hmA]
        clear hmA h4
        replace HK := Lib.hid (bel_grown HK.out k25 HG.out)
        replace RQ := Lib.hid (RQ.out.kept k25 (fun g' hg' e => by have := HBRQ.out g' hg'; injection e; omega))
        replace XA := Lib.hid (XA.out.kept k25 (fun g' hg' e => by have := APAGL.out g' hg'; injection e; omega))
        have YA := Lib.hid hrow
        replace RD := Lib.hid r25
        clear hrow r25 k25
        refine hK.out _ _ trivial (fun _ => ?_)
        clear hK K
        try simp only [Act.put, List.setIfInBounds_toArray, List.set]
        refine wpAnyH_ready (rs := [7]) (by kernel_rfl) (by simp) ?_
        refine AllReadyH.cons (o := _) (by (simp only [List.getElem?_toArray]; rfl)) (fun K hK => ?_) AllReadyH.nil
        have hmy := LYA.out
        rw [← HMA.out] at hmy
        refine step_append_elt (by rfl) (.tmp 20) (.tmp 22) (by rfl) (k + mA) eltReq (by rfl) (by rfl) XA.out (YA.out.rows five_len) (by rw [List.length_take, ← HM.out]; omega) HMA.out.symm rfl (by simp only [maxLen]; omega) (by omega) HK.out.size ?_
        intro zA czA u26 q26
        have ZA := Lib.hid q26.row
        replace HK := Lib.hid (q26.belowB XA.out HK.out (Nat.le_refl _) HK.out.size)
        replace RD := Lib.hid (RD.out.below (q26.below (by have := RD.out.lt; omega) (fun g' hg' => by have := APAGL.out g' hg'; omega)))
        replace RQ := Lib.hid (RQ.out.kept q26.grown (fun g' hg' e => APARQ.out g' e hg'))
        have LZA := Lib.hid (show (rs.take k ++ ysA).length = k + mA by rw [List.length_append, List.length_take, ← HMA.out, ← HM.out]; omega)
        clear q26
        refine hK.out _ _ trivial (fun _ => ?_)
        clear hK K
        simp only [Act.put, List.setIfInBounds_toArray, List.set]
        refine wpAnyH_ready (rs := [8]) (by kernel_rfl) (by simp) ?_
        refine AllReadyH.cons (o := _) (by (simp only [List.getElem?_toArray]; rfl)) (fun K hK => ?_) AllReadyH.nil
        go_simp
        refine (sLedgerOf_c zA (k + mA) czA (rs.take k ++ ysA) u26 (ZA.out.slE five_len LZA.out) (by omega)).mono ?_
        rintro e u27 ⟨dA, cA, rfl, rD, kX⟩
        have BA := Lib.hid (Nat.le_trans (ledOf_le (rs.take k ++ ysA)) (Nat.le_of_eq LZA.out))
        obtain ⟨xsA, hxs⟩ : ∃ xs, xs = ledOf (rs.take k ++ ysA) := ⟨_, rfl⟩
        rw [← hxs] at rD BA ⊢
        obtain ⟨lA, hlA⟩ : ∃ l, l = xsA.length := ⟨_, rfl⟩
        have LA := Lib.hid hlA
        rw [← hlA] at BA ⊢
        clear hxs hlA
        have HBDA := Lib.hid (fun g' (hg' : rowBlk dA cA = some g') => (show g < g' by have := (rD.blk hg').1; have := RD.out.lt; omega))
        have DA := Lib.hid rD
        replace HK := Lib.hid (below_next HK.out kX)
        replace RD := Lib.hid (RD.out.below (kX.mono (by have := RD.out.lt; omega)))
        replace RQ := Lib.hid (RQ.out.below kX)
        replace ZA := Lib.hid (ZA.out.below kX)
        clear rD
        refine hK.out _ _ trivial (fun _ => ?_)
        clear hK K kX
        try simp only [Act.put, List.setIfInBounds_toArray, List.set]
        refine wpAnyH_ready (rs := [13]) (by kernel_rfl) (by simp) ?_
        refine AllReadyH.cons (o := _) (by (simp only [List.getElem?_toArray]; rfl)) (fun K hK => ?_) AllReadyH.nil
        refine step_append_new (w.heap.size) (by rfl) (.tmp 25) (.tmp 28) (by rfl) eltReq (by rfl) (by rfl) ((RQ.out.rows five_len).taken (m := k)) (by rw [List.length_take, ← HM.out]; omega) (by simp only [maxLen]; omega) (by omega) HK.out.size ?_
        intro xB cB0 u28 q28
        have APBRQ := Lib.hid (q28.apart RQ.out)
        have APBDA := Lib.hid (q28.apart DA.out)
        have APBGL := Lib.hid (fun g' (hg' : rowBlk xB cB0 = some g') => (show g < g' by have := q28.blk g' hg'; have := RD.out.lt; omega))
        have kX := q28.below
        have XB := Lib.hid q28.row
        replace HK := Lib.hid (below_next HK.out kX)
        replace RD := Lib.hid (RD.out.below (kX.mono (by have := RD.out.lt; omega)))
        replace RQ := Lib.hid (RQ.out.below kX)
        replace DA := Lib.hid (DA.out.below kX)
        clear q28
        refine hK.out _ _ trivial (fun _ => ?_)
        clear hK K kX
        simp only [Act.put, List.setIfInBounds_toArray, List.set]
        refine wpAnyH_ready (rs := [15]) (by kernel_rfl) (by simp) ?_
        refine AllReadyH.cons (o := _) (by (simp only [List.getElem?_toArray]; rfl)) (fun K hK => ?_) AllReadyH.nil
        go_simp
        refine (l20Reqs_c u28 g _ 4 RD.out (by omega) (by omega)).mono ?_
        rintro e u29 ⟨ysB, yB, cyB, rfl, h4, -, hrow, r29, k29⟩
        have LYB := Lib.hid h4
        obtain ⟨mB, hmB⟩ : ∃ m, m = ysB.length := ⟨_, rfl⟩
        have HMB := Lib.hid hmB
        rw [← hmB]
        clear hmB h4
        replace HK := Lib.hid (bel_grown HK.out k29 HG.out)
        replace RQ := Lib.hid (RQ.out.kept k29 (fun g' hg' e => by have := HBRQ.out g' hg'; injection e; omega))
        replace DA := Lib.hid (DA.out.kept k29 (fun g' hg' e => by have := HBDA.out g' hg'; injection e; omega))
        replace XB := Lib.hid (XB.out.kept k29 (fun g' hg' e => by have := APBGL.out g' hg'; injection e; omega))
        have YB := Lib.hid hrow
        replace RD := Lib.hid r29
        clear hrow r29 k29
        refine hK.out _ _ trivial (fun _ => ?_)
        clear hK K
        try simp only [Act.put, List.setIfInBounds_toArray, List.set]
        refine wpAnyH_ready (rs := [16]) (by kernel_rfl) (by simp) ?_
        refine AllReadyH.cons (o := _) (by (simp only [List.getElem?_toArray]; rfl)) (fun K hK => ?_) AllReadyH.nil
        have hmy := LYB.out
        rw [← HMB.out] at hmy
        refine step_append_elt (by rfl) (.tmp 29) (.tmp 31) (by rfl) (k + mB) eltReq (by rfl) (by rfl) XB.out (YB.out.rows five_len) (by rw [List.length_take, ← HM.out]; omega) HMB.out.symm rfl (by simp only [maxLen]; omega) (by omega) HK.out.size ?_
        intro zB czB u30 q30
        have ZB := Lib.hid q30.row
        replace HK := Lib.hid (q30.belowB XB.out HK.out (Nat.le_refl _) HK.out.size)
        replace RD := Lib.hid (RD.out.below (q30.below (by have := RD.out.lt; omega) (fun g' hg' => by have := APBGL.out g' hg'; omega)))
        replace RQ := Lib.hid (RQ.out.kept q30.grown (fun g' hg' e => APBRQ.out g' e hg'))
        replace DA := Lib.hid (DA.out.kept q30.grown (fun g' hg' e => APBDA.out g' e hg'))
        have LZB := Lib.hid (show (rs.take k ++ ysB).length = k + mB by rw [List.length_append, List.length_take, ← HMB.out, ← HM.out]; omega)
        clear q30
        refine hK.out _ _ trivial (fun _ => ?_)
        clear hK K
        simp only [Act.put, List.setIfInBounds_toArray, List.set]
        refine wpAnyH_ready (rs := [17]) (by kernel_rfl) (by simp) ?_
        refine AllReadyH.cons (o := _) (by (simp only [List.getElem?_toArray]; rfl)) (fun K hK => ?_) AllReadyH.nil
        go_simp
        refine (sLedgerOf_c zB (k + mB) czB (rs.take k ++ ysB) u30 (ZB.out.slE five_len LZB.out) (by omega)).mono ?_
        rintro e u31 ⟨dB, cB, rfl, rD, kX⟩
        have BB := Lib.hid (Nat.le_trans (ledOf_le (rs.take k ++ ysB)) (Nat.le_of_eq LZB.out))
        obtain ⟨xsB, hxs⟩ : ∃ xs, xs = ledOf (rs.take k ++ ysB) := ⟨_, rfl⟩
        rw [← hxs] at rD BB ⊢
        obtain ⟨lB, hlB⟩ : ∃ l, l = xsB.length := ⟨_, rfl⟩
        have LB := Lib.hid hlB
        rw [← hlB] at BB ⊢
        clear hxs hlB
        have HBDB := Lib.hid (fun g' (hg' : rowBlk dB cB = some g') => (show g < g' by have := (rD.blk hg').1; have := RD.out.lt; omega))
        have DB := Lib.hid rD
        replace HK := Lib.hid (below_next HK.out kX)
        replace RD := Lib.hid (RD.out.below (kX.mono (by have := RD.out.lt; omega)))
        replace RQ := Lib.hid (RQ.out.below kX)
        replace DA := Lib.hid (DA.out.below kX)
        replace ZB := Lib.hid (ZB.out.below kX)
        clear rD
        refine hK.out _ _ trivial (fun _ => ?_)
        clear hK K kX
        try simp only [Act.put, List.setIfInBounds_toArray, List.set]
        refine wpAnyH_take (i := 18) (oi := _) (v := ?_) (by (simp only [List.getElem?_toArray]; rfl)) (by kernel_rfl) (by kernel_rfl) (by kernel_rfl) (by exact fun _ _ _ h => h) (Or.inl ⟨by rfl, ?_⟩) (by assumption) ?_
        rotate_left
        · intro wS hSw
          go_simp
          all_goals first | with_reducible rfl | rw [if_neg (by omega)]
        simp only [Act.put, List.setIfInBounds_toArray, List.set]
        refine wpAnyH_take (i := 19) (oi := _) (v := ?_) (by (simp only [List.getElem?_toArray]; rfl)) (by kernel_rfl) (by kernel_rfl) (by kernel_rfl) (by exact fun _ _ _ h => h) (Or.inl ⟨by rfl, ?_⟩) (by assumption) ?_
        rotate_left
        · intro wS hSw
          go_simp
          all_goals first | with_reducible rfl | rw [if_neg (by omega)]
        simp only [Act.put, List.setIfInBounds_toArray, List.set]
        refine wpAnyH_done (by kernel_rfl) ?_ _
        go_wp2_with fail
        refine bodyPost_ret (v := .tuple #[.slice dA lA cA, .slice dB lB cB]) (by simp [results, Tryd.results30, go_sem]) rfl ?_
        exact ⟨xsA, xsB, dA, cA, dB, cB, by rw [LA.out, LB.out], by have := LA.out; have := BA.out; omega, by have := LB.out; have := BB.out; omega, DA.out.sl six_len, DB.out.sl six_len, HK.out⟩
      exact AllReadyH.nil
    refine AllReadyH.cons (o := _) (by (simp only [List.getElem?_toArray]; rfl)) (fun K hK => ?_) ?_
    · skip
      refine step_build0 (by rfl) (by rfl) eltReq ?_
      obtain ⟨u32, hX, sX, dW, kX⟩ := blocks1 u1 (.cells #[] 42)
      rw [← hX]
      clear hX dW sX
      replace HK := Lib.hid (below_next HK.out kX)
      replace RD := Lib.hid (RD.out.below (kX.mono (by have := RD.out.lt; omega)))
      replace RQ := Lib.hid (RQ.out.below kX)
      refine hK.out _ _ trivial (fun _ => ?_)
      clear hK K kX
      simp only [Act.put, List.setIfInBounds_toArray, List.set]
      refine wpAnyH_ready (rs := [4]) (by kernel_rfl) (by simp) ?_
      refine AllReadyH.cons (o := _) (by (simp only [List.getElem?_toArray]; rfl)) (fun K hK => ?_) AllReadyH.nil
      refine step_append_new (w.heap.size) (by rfl) (.tmp 16) (.tmp 19) (by rfl) eltReq (by rfl) (by rfl) ((RQ.out.rows five_len).taken (m := k)) (by rw [List.length_take, ← HM.out]; omega) (by simp only [maxLen]; omega) (by omega) HK.out.size ?_
      intro xA cA0 u33 q33
      have APARQ := Lib.hid (q33.apart RQ.out)
      have APAGL := Lib.hid (fun g' (hg' : rowBlk xA cA0 = some g') => (show g < g' by have := q33.blk g' hg'; have := RD.out.lt; omega))
      have kX := q33.below
      have XA := Lib.hid q33.row
      replace HK := Lib.hid (below_next HK.out kX)
      replace RD := Lib.hid (RD.out.below (kX.mono (by have := RD.out.lt; omega)))
      replace RQ := Lib.hid (RQ.out.below kX)
      clear q33
      refine hK.out _ _ trivial (fun _ => ?_)
      clear hK K kX
      simp only [Act.put, List.setIfInBounds_toArray, List.set]
      refine wpAnyH_ready (rs := [6]) (by kernel_rfl) (by simp) ?_
      refine AllReadyH.cons (o := _) (by (simp only [List.getElem?_toArray]; rfl)) (fun K hK => ?_) AllReadyH.nil
      go_simp
      refine (l20Reqs_c u33 g _ 4 RD.out (by omega) (by omega)).mono ?_
      rintro e u34 ⟨ysA, yA, cyA, rfl, h4, -, hrow, r34, k34⟩
      have LYA := Lib.hid h4
      obtain ⟨mA, hmA⟩ : ∃ m, m = ysA.length := ⟨_, rfl⟩
      have HMA := Lib.hid hmA
      rw [← hmA]
      clear hmA h4
      replace HK := Lib.hid (bel_grown HK.out k34 HG.out)
      replace RQ := Lib.hid (RQ.out.kept k34 (fun g' hg' e => by have := HBRQ.out g' hg'; injection e; omega))
      replace XA := Lib.hid (XA.out.kept k34 (fun g' hg' e => by have := APAGL.out g' hg'; injection e; omega))
      have YA := Lib.hid hrow
      replace RD := Lib.hid r34
      clear hrow r34 k34
      refine hK.out _ _ trivial (fun _ => ?_)
      clear hK K
      try simp only [Act.put, List.setIfInBounds_toArray, List.set]
      refine wpAnyH_ready (rs := [7]) (by kernel_rfl) (by simp) ?_
      refine AllReadyH.cons (o := _) (by (simp only [List.getElem?_toArray]; rfl)) (fun K hK => ?_) AllReadyH.nil
      have hmy := LYA.out
      rw [← HMA.out] at hmy
      refine step_append_elt (by rfl) (.tmp 20) (.tmp 22) (by rfl) (k + mA) eltReq (by rfl) (by rfl) XA.out (YA.out.rows five_len) (by rw [List.length_take, ← HM.out]; omega) HMA.out.symm rfl (by simp only [maxLen]; omega) (by omega) HK.out.size ?_
      intro zA czA u35 q35
      have ZA := Lib.hid q35.row
      replace HK := Lib.hid (q35.belowB XA.out HK.out (Nat.le_refl _) HK.out.size)
      replace RD := Lib.hid (RD.out.below (q35.below (by have := RD.out.lt; omega) (fun g' hg' => by have := APAGL.out g' hg'; omega)))
      replace RQ := Lib.hid (RQ.out.kept q35.grown (fun g' hg' e => APARQ.out g' e hg'))
      have LZA := Lib.hid (show (rs.take k ++ ysA).length = k + mA by rw [List.length_append, List.length_take, ← HMA.out, ← HM.out]; omega)
      clear q35
      refine hK.out _ _ trivial (fun _ => ?_)
      clear hK K
      simp only [Act.put, List.setIfInBounds_toArray, List.set]
      refine wpAnyH_ready (rs := [8]) (by kernel_rfl) (by simp) ?_
      refine AllReadyH.cons (o := _) (by (simp only [List.getElem?_toArray]; rfl)) (fun K hK => ?_) AllReadyH.nil
      go_simp
      refine (sLedgerOf_c zA (k + mA) czA (rs.take k ++ ysA) u35 (ZA.out.slE five_len LZA.out) (by omega)).mono ?_
      rintro e u36 ⟨dA, cA, rfl, rD, kX⟩
      have BA := Lib.hid (Nat.le_trans (ledOf_le (rs.take k ++ ysA)) (Nat.le_of_eq LZA.out))
      obtain ⟨xsA, hxs⟩ : ∃ xs, xs = ledOf (rs.take k ++ ysA) := ⟨_, rfl⟩
      rw [← hxs] at rD BA ⊢
      obtain ⟨lA, hlA⟩ : ∃ l, l = xsA.length := ⟨_, rfl⟩
      have LA := Lib.hid hlA
      rw [← hlA] at BA ⊢
      clear hxs hlA
      have HBDA := Lib.hid (fun g' (hg' : rowBlk dA cA = some g') => (show g < g' by have := (rD.blk hg').1; have := RD.out.lt; omega))
      have DA := Lib.hid rD
      replace HK := Lib.hid (below_next HK.out kX)
      replace RD := Lib.hid (RD.out.below (kX.mono (by have := RD.out.lt; omega)))
      replace RQ := Lib.hid (RQ.out.below kX)
      replace ZA := Lib.hid (ZA.out.below kX)
      clear rD
      refine hK.out _ _ trivial (fun _ => ?_)
      clear hK K kX
      try simp only [Act.put, List.setIfInBounds_toArray, List.set]
      refine wpAnyH_ready (rs := [13]) (by kernel_rfl) (by simp) ?_
      refine AllReadyH.cons (o := _) (by (simp only [List.getElem?_toArray]; rfl)) (fun K hK => ?_) AllReadyH.nil
      refine step_append_new (w.heap.size) (by rfl) (.tmp 25) (.tmp 28) (by rfl) eltReq (by rfl) (by rfl) ((RQ.out.rows five_len).taken (m := k)) (by rw [List.length_take, ← HM.out]; omega) (by simp only [maxLen]; omega) (by omega) HK.out.size ?_
      intro xB cB0 u37 q37
      have APBRQ := Lib.hid (q37.apart RQ.out)
      have APBDA := Lib.hid (q37.apart DA.out)
      have APBGL := Lib.hid (fun g' (hg' : rowBlk xB cB0 = some g') => (show g < g' by have := q37.blk g' hg'; have := RD.out.lt; omega))
      have kX := q37.below
      have XB := Lib.hid q37.row
      replace HK := Lib.hid (below_next HK.out kX)
      replace RD := Lib.hid (RD.out.below (kX.mono (by have := RD.out.lt; omega)))
      replace RQ := Lib.hid (RQ.out.below kX)
      replace DA := Lib.hid (DA.out.below kX)
      clear q37
      refine hK.out _ _ trivial (fun _ => ?_)
      clear hK K kX
      simp only [Act.put, List.setIfInBounds_toArray, List.set]
      refine wpAnyH_ready (rs := [15]) (by kernel_rfl) (by simp) ?_
      refine AllReadyH.cons (o := _) (by (simp only [List.getElem?_toArray]; rfl)) (fun K hK => ?_) AllReadyH.nil
      go_simp
      refine (l20Reqs_c u37 g _ 4 RD.out (by omega) (by omega)).mono ?_
      rintro e u38 ⟨ysB, yB, cyB, rfl, h4, -, hrow, r38, k38⟩
      have LYB := Lib.hid h4
      obtain ⟨mB, hmB⟩ : ∃ m, m = ysB.length := ⟨_, rfl⟩
      have HMB := Lib.hid hmB
      rw [← hmB]
      clear hmB h4
      replace HK := Lib.hid (bel_grown HK.out k38 HG.out)
      replace RQ := Lib.hid (RQ.out.kept k38 (fun g' hg' e => by have := HBRQ.out g' hg'; injection e; omega))
      replace DA := Lib.hid (DA.out.kept k38 (fun g' hg' e => by have := HBDA.out g' hg'; injection e; omega))
      replace XB := Lib.hid (XB.out.kept k38 (fun g' hg' e => by have := APBGL.out g' hg'; injection e; omega))
      have YB := Lib.hid hrow
      replace RD := Lib.hid r38
      clear hrow r38 k38
      refine hK.out _ _ trivial (fun _ => ?_)
      clear hK K
      try simp only [Act.put, List.setIfInBounds_toArray, List.set]
      refine wpAnyH_ready (rs := [16]) (by kernel_rfl) (by simp) ?_
      refine AllReadyH.cons (o := _) (by (simp only [List.getElem?_toArray]; rfl)) (fun K hK => ?_) AllReadyH.nil
      have hmy := LYB.out
      rw [← HMB.out] at hmy
      refine step_append_elt (by rfl) (.tmp 29) (.tmp 31) (by rfl) (k + mB) eltReq (by rfl) (by rfl) XB.out (YB.out.rows five_len) (by rw [List.length_take, ← HM.out]; omega) HMB.out.symm rfl (by simp only [maxLen]; omega) (by omega) HK.out.size ?_
      intro zB czB u39 q39
      have ZB := Lib.hid q39.row
      replace HK := Lib.hid (q39.belowB XB.out HK.out (Nat.le_refl _) HK.out.size)
      replace RD := Lib.hid (RD.out.below (q39.below (by have := RD.out.lt; omega) (fun g' hg' => by have := APBGL.out g' hg'; omega)))
      replace RQ := Lib.hid (RQ.out.kept q39.grown (fun g' hg' e => APBRQ.out g' e hg'))
      replace DA := Lib.hid (DA.out.kept q39.grown (fun g' hg' e => APBDA.out g' e hg'))
      have LZB := Lib.hid (show (rs.take k ++ ysB).length = k + mB by rw [List.length_append, List.length_take, ← HMB.out, ← HM.out]; omega)
      clear q39
      refine hK.out _ _ trivial (fun _ => ?_)
      clear hK K
      simp only [Act.put, List.setIfInBounds_toArray, List.set]
      refine wpAnyH_ready (rs := [17]) (by kernel_rfl) (by simp) ?_
      refine AllReadyH.cons (o := _) (by (simp only [List.getElem?_toArray]; rfl)) (fun K hK => ?_) AllReadyH.nil
      go_simp
      refine (sLedgerOf_c zB (k + mB) czB (rs.take k ++ ysB) u39 (ZB.out.slE five_len LZB.out) (by omega)).mono ?_
      rintro e u40 ⟨dB, cB, rfl, rD, kX⟩
      have BB := Lib.hid (Nat.le_trans (ledOf_le (rs.take k ++ ysB)) (Nat.le_of_eq LZB.out))
      obtain ⟨xsB, hxs⟩ : ∃ xs, xs = ledOf (rs.take k ++ ysB) := ⟨_, rfl⟩
      rw [← hxs] at rD BB ⊢
      obtain ⟨lB, hlB⟩ : ∃ l, l = xsB.length := ⟨_, rfl⟩
      have LB := Lib.hid hlB
      rw [← hlB] at BB ⊢
      clear hxs hlB
      have HBDB := Lib.hid (fun g' (hg' : rowBlk dB cB = some g') => (show g < g' by have := (rD.blk hg').1; have := RD.out.lt; omega))
      have DB := Lib.hid rD
      replace HK := Lib.hid (below_next HK.out kX)
      replace RD := Lib.hid (RD.out.below (kX.mono (by have := RD.out.lt; omega)))
      replace RQ := Lib.hid (RQ.out.below kX)
      replace DA := Lib.hid (DA.out.below kX)
      replace ZB := Lib.hid (ZB.out.below kX)
      clear rD
      refine hK.out _ _ trivial (fun _ => ?_)
      clear hK K kX
      try simp only [Act.put, List.setIfInBounds_toArray, List.set]
      refine wpAnyH_take (i := 18) (oi := _) (v := ?_) (by (simp only [List.getElem?_toArray]; rfl)) (by kernel_rfl) (by kernel_rfl) (by kernel_rfl) (by exact fun _ _ _ h => h) (Or.inl ⟨by rfl, ?_⟩) (by assumption) ?_
      rotate_left
      · intro wS hSw
        go_simp
        all_goals first | with_reducible rfl | rw [if_neg (by omega)]
      simp only [Act.put, List.setIfInBounds_toArray, List.set]
      refine wpAnyH_take (i := 19) (oi := _) (v := ?_) (by (simp only [List.getElem?_toArray]; rfl)) (by kernel_rfl) (by kernel_rfl) (by kernel_rfl) (by exact fun _ _ _ h => h) (Or.inl ⟨by rfl, ?_⟩) (by assumption) ?_
      rotate_left
      · intro wS hSw
        go_simp
        all_goals first | with_reducible rfl | rw [if_neg (by omega)]
      simp only [Act.put, List.setIfInBounds_toArray, List.set]
      refine wpAnyH_done (by kernel_rfl) ?_ _
      go_wp2_with fail
      refine bodyPost_ret (v := .tuple #[.slice dA lA cA, .slice dB lB cB]) (by simp [results, Tryd.results30, go_sem]) rfl ?_
      exact ⟨xsA, xsB, dA, cA, dB, cB, by rw [LA.out, LB.out], by have := LA.out; have := BA.out; omega, by have := LB.out; have := BB.out; omega, DA.out.sl six_len, DB.out.sl six_len, HK.out⟩
    exact AllReadyH.nil
  refine AllReadyH.cons (o := _) (by (simp only [List.getElem?_toArray]; rfl)) (fun K hK => ?_) ?_
  · skip
    refine step_build0 (by rfl) (by rfl) eltReq ?_
    obtain ⟨u41, hX, sX, dW, kX⟩ := blocks1 u0 (.cells #[] 42)
    rw [← hX]
    clear hX dW sX
    replace HK := Lib.hid (below_next HK.out kX)
    replace RD := Lib.hid (RD.out.below (kX.mono (by have := RD.out.lt; omega)))
    replace RQ := Lib.hid (RQ.out.below kX)
    refine hK.out _ _ trivial (fun _ => ?_)
    clear hK K kX
    simp only [Act.put, List.setIfInBounds_toArray, List.set]
    refine wpAnyH_ready (rs := [0]) (by kernel_rfl) (by simp) ?_
    refine AllReadyH.cons (o := _) (by (simp only [List.getElem?_toArray]; rfl)) (fun K hK => ?_) AllReadyH.nil
    refine step_build0 (by rfl) (by rfl) eltReq ?_
    obtain ⟨u42, hX, sX, dW, kX⟩ := blocks1 u41 (.cells #[] 42)
    rw [← hX]
    clear hX dW sX
    replace HK := Lib.hid (below_next HK.out kX)
    replace RD := Lib.hid (RD.out.below (kX.mono (by have := RD.out.lt; omega)))
    replace RQ := Lib.hid (RQ.out.below kX)
    refine hK.out _ _ trivial (fun _ => ?_)
    clear hK K kX
    simp only [Act.put, List.setIfInBounds_toArray, List.set]
    refine wpAnyH_ready (rs := [4]) (by kernel_rfl) (by simp) ?_
    refine AllReadyH.cons (o := _) (by (simp only [List.getElem?_toArray]; rfl)) (fun K hK => ?_) AllReadyH.nil
    refine step_append_new (w.heap.size) (by rfl) (.tmp 16) (.tmp 19) (by rfl) eltReq (by rfl) (by rfl) ((RQ.out.rows five_len).taken (m := k)) (by rw [List.length_take, ← HM.out]; omega) (by simp only [maxLen]; omega) (by omega) HK.out.size ?_
    intro xA cA0 u43 q43
    have APARQ := Lib.hid (q43.apart RQ.out)
    have APAGL := Lib.hid (fun g' (hg' : rowBlk xA cA0 = some g') => (show g < g' by have := q43.blk g' hg'; have := RD.out.lt; omega))
    have kX := q43.below
    have XA := Lib.hid q43.row
    replace HK := Lib.hid (below_next HK.out kX)
    replace RD := Lib.hid (RD.out.below (kX.mono (by have := RD.out.lt; omega)))
    replace RQ := Lib.hid (RQ.out.below kX)
    clear q43
    refine hK.out _ _ trivial (fun _ => ?_)
    clear hK K kX
    simp only [Act.put, List.setIfInBounds_toArray, List.set]
    refine wpAnyH_ready (rs := [6]) (by kernel_rfl) (by simp) ?_
    refine AllReadyH.cons (o := _) (by (simp only [List.getElem?_toArray]; rfl)) (fun K hK => ?_) AllReadyH.nil
    go_simp
    refine (l20Reqs_c u43 g _ 4 RD.out (by omega) (by omega)).mono ?_
    rintro e u44 ⟨ysA, yA, cyA, rfl, h4, -, hrow, r44, k44⟩
    have LYA := Lib.hid h4
    obtain ⟨mA, hmA⟩ : ∃ m, m = ysA.length := ⟨_, rfl⟩
    have HMA := Lib.hid hmA
    rw [← hmA]
    clear hmA h4
    replace HK := Lib.hid (bel_grown HK.out k44 HG.out)
    replace RQ := Lib.hid (RQ.out.kept k44 (fun g' hg' e => by have := HBRQ.out g' hg'; injection e; omega))
    replace XA := Lib.hid (XA.out.kept k44 (fun g' hg' e => by have := APAGL.out g' hg'; injection e; omega))
    have YA := Lib.hid hrow
    replace RD := Lib.hid r44
    clear hrow r44 k44
    refine hK.out _ _ trivial (fun _ => ?_)
    clear hK K
    try simp only [Act.put, List.setIfInBounds_toArray, List.set]
    refine wpAnyH_ready (rs := [7]) (by kernel_rfl) (by simp) ?_
    refine AllReadyH.cons (o := _) (by (simp only [List.getElem?_toArray]; rfl)) (fun K hK => ?_) AllReadyH.nil
    have hmy := LYA.out
    rw [← HMA.out] at hmy
    refine step_append_elt (by rfl) (.tmp 20) (.tmp 22) (by rfl) (k + mA) eltReq (by rfl) (by rfl) XA.out (YA.out.rows five_len) (by rw [List.length_take, ← HM.out]; omega) HMA.out.symm rfl (by simp only [maxLen]; omega) (by omega) HK.out.size ?_
    intro zA czA u45 q45
    have ZA := Lib.hid q45.row
    replace HK := Lib.hid (q45.belowB XA.out HK.out (Nat.le_refl _) HK.out.size)
    replace RD := Lib.hid (RD.out.below (q45.below (by have := RD.out.lt; omega) (fun g' hg' => by have := APAGL.out g' hg'; omega)))
    replace RQ := Lib.hid (RQ.out.kept q45.grown (fun g' hg' e => APARQ.out g' e hg'))
    have LZA := Lib.hid (show (rs.take k ++ ysA).length = k + mA by rw [List.length_append, List.length_take, ← HMA.out, ← HM.out]; omega)
    clear q45
    refine hK.out _ _ trivial (fun _ => ?_)
    clear hK K
    simp only [Act.put, List.setIfInBounds_toArray, List.set]
    refine wpAnyH_ready (rs := [8]) (by kernel_rfl) (by simp) ?_
    refine AllReadyH.cons (o := _) (by (simp only [List.getElem?_toArray]; rfl)) (fun K hK => ?_) AllReadyH.nil
    go_simp
    refine (sLedgerOf_c zA (k + mA) czA (rs.take k ++ ysA) u45 (ZA.out.slE five_len LZA.out) (by omega)).mono ?_
    rintro e u46 ⟨dA, cA, rfl, rD, kX⟩
    have BA := Lib.hid (Nat.le_trans (ledOf_le (rs.take k ++ ysA)) (Nat.le_of_eq LZA.out))
    obtain ⟨xsA, hxs⟩ : ∃ xs, xs = ledOf (rs.take k ++ ysA) := ⟨_, rfl⟩
    rw [← hxs] at rD BA ⊢
    obtain ⟨lA, hlA⟩ : ∃ l, l = xsA.length := ⟨_, rfl⟩
    have LA := Lib.hid hlA
    rw [← hlA] at BA ⊢
    clear hxs hlA
    have HBDA := Lib.hid (fun g' (hg' : rowBlk dA cA = some g') => (show g < g' by have := (rD.blk hg').1; have := RD.out.lt; omega))
    have DA := Lib.hid rD
    replace HK := Lib.hid (below_next HK.out kX)
    replace RD := Lib.hid (RD.out.below (kX.mono (by have := RD.out.lt; omega)))
    replace RQ := Lib.hid (RQ.out.below kX)
    replace ZA := Lib.hid (ZA.out.below kX)
    clear rD
    refine hK.out _ _ trivial (fun _ => ?_)
    clear hK K kX
    try simp only [Act.put, List.setIfInBounds_toArray, List.set]
    refine wpAnyH_ready (rs := [13]) (by kernel_rfl) (by simp) ?_
    refine AllReadyH.cons (o := _) (by (simp only [List.getElem?_toArray]; rfl)) (fun K hK => ?_) AllReadyH.nil
    refine step_append_new (w.heap.size) (by rfl) (.tmp 25) (.tmp 28) (by rfl) eltReq (by rfl) (by rfl) ((RQ.out.rows five_len).taken (m := k)) (by rw [List.length_take, ← HM.out]; omega) (by simp only [maxLen]; omega) (by omega) HK.out.size ?_
    intro xB cB0 u47 q47
    have APBRQ := Lib.hid (q47.apart RQ.out)
    have APBDA := Lib.hid (q47.apart DA.out)
    have APBGL := Lib.hid (fun g' (hg' : rowBlk xB cB0 = some g') => (show g < g' by have := q47.blk g' hg'; have := RD.out.lt; omega))
    have kX := q47.below
    have XB := Lib.hid q47.row
    replace HK := Lib.hid (below_next HK.out kX)
    replace RD := Lib.hid (RD.out.below (kX.mono (by have := RD.out.lt; omega)))
    replace RQ := Lib.hid (RQ.out.below kX)
    replace DA := Lib.hid (DA.out.below kX)
    clear q47
    refine hK.out _ _ trivial (fun _ => ?_)
    clear hK K kX
    simp only [Act.put, List.setIfInBounds_toArray, List.set]
    refine wpAnyH_ready (rs := [15]) (by kernel_rfl) (by simp) ?_
    refine AllReadyH.cons (o := _) (by (simp only [List.getElem?_toArray]; rfl)) (fun K hK => ?_) AllReadyH.nil
    go_simp
    refine (l20Reqs_c u47 g _ 4 RD.out (by omega) (by omega)).mono ?_
    rintro e u48 ⟨ysB, yB, cyB, rfl, h4, -, hrow, r48, k48⟩
    have LYB := Lib.hid h4
    obtain ⟨mB, hmB⟩ : ∃ m, m = ysB.length := ⟨_, rfl⟩
    have HMB := Lib.hid hmB
    rw [← hmB]
    clear hmB h4
    replace HK := Lib.hid (bel_grown HK.out k48 HG.out)
    replace RQ := Lib.hid (RQ.out.kept k48 (fun g' hg' e => by have := HBRQ.out g' hg'; injection e; omega))
    replace DA := Lib.hid (DA.out.kept k48 (fun g' hg' e => by have := HBDA.out g' hg'; injection e; omega))
    replace XB := Lib.hid (XB.out.kept k48 (fun g' hg' e => by have := APBGL.out g' hg'; injection e; omega))
    have YB := Lib.hid hrow
    replace RD := Lib.hid r48
    clear hrow r48 k48
    refine hK.out _ _ trivial (fun _ => ?_)
    clear hK K
    try simp only [Act.put, List.setIfInBounds_toArray, List.set]
    refine wpAnyH_ready (rs := [16]) (by kernel_rfl) (by simp) ?_
    refine AllReadyH.cons (o := _) (by (simp only [List.getElem?_toArray]; rfl)) (fun K hK => ?_) AllReadyH.nil
    have hmy := LYB.out
    rw [← HMB.out] at hmy
    refine step_append_elt (by rfl) (.tmp 29) (.tmp 31) (by rfl) (k + mB) eltReq (by rfl) (by rfl) XB.out (YB.out.rows five_len) (by rw [List.length_take, ← HM.out]; omega) HMB.out.symm rfl (by simp only [maxLen]; omega) (by omega) HK.out.size ?_
    intro zB czB u49 q49
    have ZB := Lib.hid q49.row
    replace HK := Lib.hid (q49.belowB XB.out HK.out (Nat.le_refl _) HK.out.size)
    replace RD := Lib.hid (RD.out.below (q49.below (by have := RD.out.lt; omega) (fun g' hg' => by have := APBGL.out g' hg'; omega)))
    replace RQ := Lib.hid (RQ.out.kept q49.grown (fun g' hg' e => APBRQ.out g' e hg'))
    replace DA := Lib.hid (DA.out.kept q49.grown (fun g' hg' e => APBDA.out g' e hg'))
    have LZB := Lib.hid (show (rs.take k ++ ysB).length = k + mB by rw [List.length_append, List.length_take, ← HMB.out, ← HM.out]; omega)
    clear q49
    refine hK.out _ _ trivial (fun _ => ?_)
    clear hK K
    simp only [Act.put, List.setIfInBounds_toArray, List.set]
    refine wpAnyH_ready (rs := [17]) (by kernel_rfl) (by simp) ?_
    refine AllReadyH.cons (o := _) (by (simp only [List.getElem?_toArray]; rfl)) (fun K hK => ?_) AllReadyH.nil
    go_simp
    refine (sLedgerOf_c zB (k + mB) czB (rs.take k ++ ysB) u49 (ZB.out.slE five_len LZB.out) (by omega)).mono ?_
    rintro e u50 ⟨dB, cB, rfl, rD, kX⟩
    have BB := Lib.hid (Nat.le_trans (ledOf_le (rs.take k ++ ysB)) (Nat.le_of_eq LZB.out))
    obtain ⟨xsB, hxs⟩ : ∃ xs, xs = ledOf (rs.take k ++ ysB) := ⟨_, rfl⟩
    rw [← hxs] at rD BB ⊢
    obtain ⟨lB, hlB⟩ : ∃ l, l = xsB.length := ⟨_, rfl⟩
    have LB := Lib.hid hlB
    rw [← hlB] at BB ⊢
    clear hxs hlB
    have HBDB := Lib.hid (fun g' (hg' : rowBlk dB cB = some g') => (show g < g' by have := (rD.blk hg').1; have := RD.out.lt; omega))
    have DB := Lib.hid rD
    replace HK := Lib.hid (below_next HK.out kX)
    replace RD := Lib.hid (RD.out.below (kX.mono (by have := RD.out.lt; omega)))
    replace RQ := Lib.hid (RQ.out.below kX)
    replace DA := Lib.hid (DA.out.below kX)
    replace ZB := Lib.hid (ZB.out.below kX)
    clear rD
    refine hK.out _ _ trivial (fun _ => ?_)
    clear hK K kX
    try simp only [Act.put, List.setIfInBounds_toArray, List.set]
    refine wpAnyH_take (i := 18) (oi := _) (v := ?_) (by (simp only [List.getElem?_toArray]; rfl)) (by kernel_rfl) (by kernel_rfl) (by kernel_rfl) (by exact fun _ _ _ h => h) (Or.inl ⟨by rfl, ?_⟩) (by assumption) ?_
    rotate_left
    · intro wS hSw
      go_simp
      all_goals first | with_reducible rfl | rw [if_neg (by omega)]
    simp only [Act.put, List.setIfInBounds_toArray, List.set]
    refine wpAnyH_take (i := 19) (oi := _) (v := ?_) (by (simp only [List.getElem?_toArray]; rfl)) (by kernel_rfl) (by kernel_rfl) (by kernel_rfl) (by exact fun _ _ _ h => h) (Or.inl ⟨by rfl, ?_⟩) (by assumption) ?_
    rotate_left
    · intro wS hSw
      go_simp
      all_goals first | with_reducible rfl | rw [if_neg (by omega)]
    simp only [Act.put, List.setIfInBounds_toArray, List.set]
    refine wpAnyH_done (by kernel_rfl) ?_ _
    go_wp2_with fail
    refine bodyPost_ret (v := .tuple #[.slice dA lA cA, .slice dB lB cB]) (by simp [results, Tryd.results30, go_sem]) rfl ?_
    exact ⟨xsA, xsB, dA, cA, dB, cB, by rw [LA.out, LB.out], by have := LA.out; have := BA.out; omega, by have := LB.out; have := BB.out; omega, DA.out.sl six_len, DB.out.sl six_len, HK.out⟩
  exact AllReadyH.nil
end Go.Proofs.YtbfnilfkhonpaaaDoor
