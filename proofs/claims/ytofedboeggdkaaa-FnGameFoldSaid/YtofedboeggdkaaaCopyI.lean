/- Contracts of the program's copyOf of clients and of games; condition: small sizes. -/
import Derived.Test.YtofedboeggdkaaaCopyOf
namespace Go.Proofs.Ytofedboeggdkaaa
open Go.RowKit Go.Joins

set_option maxRecDepth 100000 in
set_option maxHeartbeats 4000000 in
theorem copyOfA_c (z : Ah) (a0 a1 : Option Addr) (n0 n1 c0 c1 : Nat) (w : World) (h0 : IsSl w (.slice a0 n0 c0) 5 Rq.cs z.dn) (h1 : IsSl w (.slice a1 n1 c1) 5 Rq.cs z.wt) (hs0 : n0 ≤ 16777216) (hs1 : n1 ≤ 16777216) :
    Calls Try.prog 65 #[.agg #[.slice a0 n0 c0, .slice a1 n1 c1, .int .i64 z.bk]] w fun e w' => ∃ b0 b1, e = .returned (.agg #[.slice b0 n0 n0, .slice b1 n1 n1, .int .i64 z.bk]) ∧ Row w' w.heap.size 34 b0 n0 5 Rq.cs z.dn ∧ Row w' w.heap.size 34 b1 n1 5 Rq.cs z.wt ∧ (∀ g, rowBlk b0 n0 = some g → rowBlk b1 n1 ≠ some g) ∧ Below w.heap.size w w' := by
  have H0 := Lib.hid h0
  have H1 := Lib.hid h1
  clear h0 h1
  go_enter Try.func65, Try.ntmps65
  go_wp2_with fail
  obtain ⟨W, hW, sW, aW, bW, kW⟩ := blocks2 w (.cells #[.slice a0 n0 c0, .slice a1 n1 c1, .int .i64 z.bk] 30) (.cells #[.slice none 0 0, .slice none 0 0, .int .i64 0] 30)
  rw [← hW]
  clear hW
  have hcA := cell_of_block aW
  have HB := Lib.hid bW
  clear bW
  refine wp_region_held_drew (S := fun w' => ((∀ b o, b < w.heap.size + 1 → (w').cell? ⟨b, o, none⟩ = (W).cell? ⟨b, o, none⟩) ∧ Below (w.heap.size + 1) (W) (w'))) (by kernel_rfl) (KeptB.drew (KeptB.refl _ _)) (fun hHeld => ?_)
  refine wpAnyH_take (i := 0) (oi := _) (v := ?_) (by (simp only [List.getElem?_toArray]; rfl)) (by kernel_rfl) (by kernel_rfl) (by kernel_rfl) (by exact fun _ _ _ h => h) (Or.inl ⟨by rfl, ?_⟩) (by assumption) ?_
  rotate_left
  · intro wS hSw
    go_simp
    all_goals first | with_reducible rfl | rw [if_neg (by omega)]
  simp only [Act.put, List.setIfInBounds_toArray, List.set]
  refine wpAnyH_take (i := 1) (oi := _) (v := ?_) (by (simp only [List.getElem?_toArray]; rfl)) (by kernel_rfl) (by kernel_rfl) (by kernel_rfl) (by exact fun _ _ _ h => h) (Or.inl ⟨by rfl, ?_⟩) (by assumption) ?_
  rotate_left
  · intro wS hSw
    go_simp
    all_goals first | with_reducible rfl | rw [if_neg (by omega)]
  simp only [Act.put, List.setIfInBounds_toArray, List.set]
  refine wpAnyH_take (i := 3) (oi := _) (v := ?_) (by (simp only [List.getElem?_toArray]; rfl)) (by kernel_rfl) (by kernel_rfl) (by kernel_rfl) (by exact fun _ _ _ h => h) (Or.inl ⟨by rfl, ?_⟩) (by assumption) ?_
  rotate_left
  · intro wS hSw
    go_simp
    all_goals first | with_reducible rfl | rw [if_neg (by omega)]
  simp only [Act.put, List.setIfInBounds_toArray, List.set]
  refine wpAnyH_take (i := 4) (oi := _) (v := ?_) (by (simp only [List.getElem?_toArray]; rfl)) (by kernel_rfl) (by kernel_rfl) (by kernel_rfl) (by exact fun _ _ _ h => h) (Or.inl ⟨by rfl, ?_⟩) (by assumption) ?_
  rotate_left
  · intro wS hSw
    go_simp
    all_goals first | with_reducible rfl | rw [if_neg (by omega)]
  simp only [Act.put, List.setIfInBounds_toArray, List.set]
  refine wpAnyH_take (i := 6) (oi := _) (v := ?_) (by (simp only [List.getElem?_toArray]; rfl)) (by kernel_rfl) (by kernel_rfl) (by kernel_rfl) (by exact fun _ _ _ h => h) (Or.inl ⟨by rfl, ?_⟩) (by assumption) ?_
  rotate_left
  · intro wS hSw
    go_simp
    all_goals first | with_reducible rfl | rw [if_neg (by omega)]
  simp only [Act.put, List.setIfInBounds_toArray, List.set]
  refine wpAnyH_take (i := 7) (oi := _) (v := ?_) (by (simp only [List.getElem?_toArray]; rfl)) (by kernel_rfl) (by kernel_rfl) (by kernel_rfl) (by exact fun _ _ _ h => h) (Or.inl ⟨by rfl, ?_⟩) (by assumption) ?_
  rotate_left
  · intro wS hSw
    go_simp
    all_goals first | with_reducible rfl | rw [if_neg (by omega)]
  simp only [Act.put, List.setIfInBounds_toArray, List.set]
  clear aW hcA hHeld
  have k := Lib.hid (KeptB.drew (KeptB.refl W.heap.size W))
  refine wpAnyH_ready (rs := [2]) (by kernel_rfl) (by simp) ?_
  refine AllReadyH.cons (o := _) (by (simp only [List.getElem?_toArray]; rfl)) (fun K hK => ?_) AllReadyH.nil
  go_simp
  refine (cloneReq_c a0 n0 c0 z.dn _ (H0.out.below (kW.trans (k.out.2.mono (by omega)))) hs0).mono ?_
  rintro e w1 ⟨b0, rfl, r0, k1⟩
  have t1 := Lib.hid (KeptB.next (Nat.le_refl _) k.out k1)
  have R0 := Lib.hid r0
  clear k1 r0
  refine hK.out _ _ (KeptB.weak t1.out (by omega)) (fun hHeld => ?_)
  clear hK K
  try simp only [Act.put, List.setIfInBounds_toArray, List.set]
  clear hHeld
  refine wpAnyH_ready (rs := [5]) (by kernel_rfl) (by simp) ?_
  refine AllReadyH.cons (o := _) (by (simp only [List.getElem?_toArray]; rfl)) (fun K hK => ?_) AllReadyH.nil
  go_simp
  refine (cloneReq_c a1 n1 c1 z.wt _ (H1.out.below (kW.trans (t1.out.2.mono (by omega)))) hs1).mono ?_
  rintro e w2 ⟨b1, rfl, r1, k2⟩
  have t2 := Lib.hid (KeptB.next (Nat.le_refl _) t1.out k2)
  have p01 := r1.apart R0.out (Nat.le_refl _)
  have R0' := Lib.hid (R0.out.below k2)
  have R1 := Lib.hid (r1.low (Nat.le_trans (show w.heap.size + 2 ≤ W.heap.size by omega) t1.out.2.size))
  clear k2 r1
  have kS := KeptB.weak t2.out (show w.heap.size + 1 ≤ W.heap.size by omega)
  have cz := fun i => (t2.out.1 (w.heap.size + 1) i (by omega)).trans (cell_of_block HB.out i)
  have fz : ∀ i, w2.frozen? ⟨w.heap.size + 1, i, none⟩ = false := fun i => (t2.out.2.frozen (p := ⟨w.heap.size + 1, i, none⟩) (by simp <;> omega)).trans (unfrozen_of_block HB.out i)
  refine hK.out _ _ kS (fun hHeld => ?_)
  clear hK K
  try simp only [Act.put, List.setIfInBounds_toArray, List.set]
  refine wpAnyH_take (i := 8) (oi := _) (v := ?_) (by (simp only [List.getElem?_toArray]; rfl)) (by kernel_rfl) (by kernel_rfl) (by kernel_rfl) (by exact fun _ _ _ h => h) (Or.inl ⟨by rfl, ?_⟩) (by assumption) ?_
  rotate_left
  · intro wS hSw
    go_simp
    all_goals first | with_reducible rfl | rw [if_neg (by omega)]
  simp only [Act.put, List.setIfInBounds_toArray, List.set]
  refine wpAnyH_ready (rs := [9]) (by kernel_rfl) (by simp) ?_
  refine AllReadyH.cons (o := _) (by (simp only [List.getElem?_toArray]; rfl)) (fun K hK => ?_) AllReadyH.nil
  go_simp
  refine hK.out _ _ (KeptB.set (by simp) _ (KeptB.set (by simp) _ (KeptB.set (by simp) _ kS))) (fun hHeld => ?_)
  clear hK K
  try simp only [Act.put, List.setIfInBounds_toArray, List.set]
  refine wpAnyH_done (by kernel_rfl) ?_ _
  go_wp2_with fail
  refine bodyPost_ret (v := .agg #[.slice b0 n0 n0, .slice b1 n1 n1, .int .i64 z.bk]) (by simp [results, Try.results65, go_sem, cz]) rfl ?_
  have sk := k.out.2.size
  refine ⟨b0, b1, rfl, ?_, ?_, p01, ?_⟩
  · exact (((((R0'.out.low (Nat.le_trans (show w.heap.size + 2 ≤ W.heap.size by omega) sk)).setOther (by simp) _).setOther (by simp) _).setOther (by simp) _)).low (by omega)
  · exact (((R1.out.setOther (by simp) _).setOther (by simp) _).setOther (by simp) _).low (by omega)
  · exact kW.trans ((((t2.out.2.mono (by omega)).setCell (by simp) _).setCell (by simp) _).setCell (by simp) _)

set_option maxRecDepth 100000 in
set_option maxHeartbeats 4000000 in
theorem copyOfG_c (z : Gm) (a0 a1 a2 : Option Addr) (n0 n1 n2 c0 c1 c2 : Nat) (w : World) (h0 : IsSl w (.slice a0 n0 c0) 5 Rq.cs z.es) (h1 : IsSl w (.slice a1 n1 c1) 1 intR z.fl) (h2 : IsSl w (.slice a2 n2 c2) 1 intR z.la) (hs0 : n0 ≤ 16777216) (hs1 : n1 ≤ 16777216) (hs2 : n2 ≤ 16777216) :
    Calls Try.prog 82 #[.agg #[.slice a0 n0 c0, .slice a1 n1 c1, .slice a2 n2 c2]] w fun e w' => ∃ b0 b1 b2, e = .returned (.agg #[.slice b0 n0 n0, .slice b1 n1 n1, .slice b2 n2 n2]) ∧ Row w' w.heap.size 92 b0 n0 5 Rq.cs z.es ∧ Row w' w.heap.size 3 b1 n1 1 intR z.fl ∧ Row w' w.heap.size 3 b2 n2 1 intR z.la ∧
      (∀ g, rowBlk b0 n0 = some g → rowBlk b1 n1 ≠ some g) ∧ (∀ g, rowBlk b0 n0 = some g → rowBlk b2 n2 ≠ some g) ∧ (∀ g, rowBlk b1 n1 = some g → rowBlk b2 n2 ≠ some g) ∧ Below w.heap.size w w' := by
  have H0 := Lib.hid h0
  have H1 := Lib.hid h1
  have H2 := Lib.hid h2
  clear h0 h1 h2
  go_enter Try.func82, Try.ntmps82
  go_wp2_with fail
  obtain ⟨W, hW, sW, aW, bW, kW⟩ := blocks2 w (.cells #[.slice a0 n0 c0, .slice a1 n1 c1, .slice a2 n2 c2] 46) (.cells #[.slice none 0 0, .slice none 0 0, .slice none 0 0] 46)
  rw [← hW]
  clear hW
  have hcA := cell_of_block aW
  have HB := Lib.hid bW
  clear bW
  refine wp_region_held_drew (S := fun w' => ((∀ b o, b < w.heap.size + 1 → (w').cell? ⟨b, o, none⟩ = (W).cell? ⟨b, o, none⟩) ∧ Below (w.heap.size + 1) (W) (w'))) (by kernel_rfl) (KeptB.drew (KeptB.refl _ _)) (fun hHeld => ?_)
  refine wpAnyH_take (i := 0) (oi := _) (v := ?_) (by (simp only [List.getElem?_toArray]; rfl)) (by kernel_rfl) (by kernel_rfl) (by kernel_rfl) (by exact fun _ _ _ h => h) (Or.inl ⟨by rfl, ?_⟩) (by assumption) ?_
  rotate_left
  · intro wS hSw
    go_simp
    all_goals first | with_reducible rfl | rw [if_neg (by omega)]
  simp only [Act.put, List.setIfInBounds_toArray, List.set]
  refine wpAnyH_take (i := 1) (oi := _) (v := ?_) (by (simp only [List.getElem?_toArray]; rfl)) (by kernel_rfl) (by kernel_rfl) (by kernel_rfl) (by exact fun _ _ _ h => h) (Or.inl ⟨by rfl, ?_⟩) (by assumption) ?_
  rotate_left
  · intro wS hSw
    go_simp
    all_goals first | with_reducible rfl | rw [if_neg (by omega)]
  simp only [Act.put, List.setIfInBounds_toArray, List.set]
  refine wpAnyH_take (i := 3) (oi := _) (v := ?_) (by (simp only [List.getElem?_toArray]; rfl)) (by kernel_rfl) (by kernel_rfl) (by kernel_rfl) (by exact fun _ _ _ h => h) (Or.inl ⟨by rfl, ?_⟩) (by assumption) ?_
  rotate_left
  · intro wS hSw
    go_simp
    all_goals first | with_reducible rfl | rw [if_neg (by omega)]
  simp only [Act.put, List.setIfInBounds_toArray, List.set]
  refine wpAnyH_take (i := 4) (oi := _) (v := ?_) (by (simp only [List.getElem?_toArray]; rfl)) (by kernel_rfl) (by kernel_rfl) (by kernel_rfl) (by exact fun _ _ _ h => h) (Or.inl ⟨by rfl, ?_⟩) (by assumption) ?_
  rotate_left
  · intro wS hSw
    go_simp
    all_goals first | with_reducible rfl | rw [if_neg (by omega)]
  simp only [Act.put, List.setIfInBounds_toArray, List.set]
  refine wpAnyH_take (i := 6) (oi := _) (v := ?_) (by (simp only [List.getElem?_toArray]; rfl)) (by kernel_rfl) (by kernel_rfl) (by kernel_rfl) (by exact fun _ _ _ h => h) (Or.inl ⟨by rfl, ?_⟩) (by assumption) ?_
  rotate_left
  · intro wS hSw
    go_simp
    all_goals first | with_reducible rfl | rw [if_neg (by omega)]
  simp only [Act.put, List.setIfInBounds_toArray, List.set]
  refine wpAnyH_take (i := 7) (oi := _) (v := ?_) (by (simp only [List.getElem?_toArray]; rfl)) (by kernel_rfl) (by kernel_rfl) (by kernel_rfl) (by exact fun _ _ _ h => h) (Or.inl ⟨by rfl, ?_⟩) (by assumption) ?_
  rotate_left
  · intro wS hSw
    go_simp
    all_goals first | with_reducible rfl | rw [if_neg (by omega)]
  simp only [Act.put, List.setIfInBounds_toArray, List.set]
  clear aW hcA hHeld
  have k := Lib.hid (KeptB.drew (KeptB.refl W.heap.size W))
  refine wpAnyH_ready (rs := [2]) (by kernel_rfl) (by simp) ?_
  refine AllReadyH.cons (o := _) (by (simp only [List.getElem?_toArray]; rfl)) (fun K hK => ?_) AllReadyH.nil
  go_simp
  refine (cloneEnt_c a0 n0 c0 z.es _ (H0.out.below (kW.trans (k.out.2.mono (by omega)))) hs0).mono ?_
  rintro e w1 ⟨b0, rfl, r0, k1⟩
  have t1 := Lib.hid (KeptB.next (Nat.le_refl _) k.out k1)
  have R0 := Lib.hid r0
  clear k1 r0
  refine hK.out _ _ (KeptB.weak t1.out (by omega)) (fun hHeld => ?_)
  clear hK K
  try simp only [Act.put, List.setIfInBounds_toArray, List.set]
  clear hHeld
  refine wpAnyH_ready (rs := [5]) (by kernel_rfl) (by simp) ?_
  refine AllReadyH.cons (o := _) (by (simp only [List.getElem?_toArray]; rfl)) (fun K hK => ?_) AllReadyH.nil
  go_simp
  refine (cloneint_c a1 n1 c1 z.fl _ (H1.out.below (kW.trans (t1.out.2.mono (by omega)))) hs1).mono ?_
  rintro e w2 ⟨b1, rfl, r1, k2⟩
  have t2 := Lib.hid (KeptB.next (Nat.le_refl _) t1.out k2)
  have p01 := r1.apart R0.out (Nat.le_refl _)
  have R02 := Lib.hid (R0.out.below k2)
  have R1 := Lib.hid r1
  clear k2 r1
  refine hK.out _ _ (KeptB.weak t2.out (by omega)) (fun hHeld => ?_)
  clear hK K
  try simp only [Act.put, List.setIfInBounds_toArray, List.set]
  clear hHeld
  refine wpAnyH_ready (rs := [8]) (by kernel_rfl) (by simp) ?_
  refine AllReadyH.cons (o := _) (by (simp only [List.getElem?_toArray]; rfl)) (fun K hK => ?_) AllReadyH.nil
  go_simp
  refine (cloneint_c a2 n2 c2 z.la _ (H2.out.below (kW.trans (t2.out.2.mono (by omega)))) hs2).mono ?_
  rintro e w3 ⟨b2, rfl, r2, k3⟩
  have t3 := Lib.hid (KeptB.next (Nat.le_refl _) t2.out k3)
  have p02 := r2.apart R02.out (Nat.le_refl _)
  have p12 := r2.apart R1.out (Nat.le_refl _)
  have R03 := Lib.hid (R02.out.below k3)
  have R13 := Lib.hid ((R1.out.below k3).low (Nat.le_trans (show w.heap.size + 2 ≤ W.heap.size by omega) t1.out.2.size))
  have R23 := Lib.hid (r2.low (Nat.le_trans (show w.heap.size + 2 ≤ W.heap.size by omega) t2.out.2.size))
  clear k3 r2
  have kS := KeptB.weak t3.out (show w.heap.size + 1 ≤ W.heap.size by omega)
  have cz := fun i => (t3.out.1 (w.heap.size + 1) i (by omega)).trans (cell_of_block HB.out i)
  have fz : ∀ i, w3.frozen? ⟨w.heap.size + 1, i, none⟩ = false := fun i => (t3.out.2.frozen (p := ⟨w.heap.size + 1, i, none⟩) (by simp <;> omega)).trans (unfrozen_of_block HB.out i)
  refine hK.out _ _ kS (fun hHeld => ?_)
  clear hK K
  try simp only [Act.put, List.setIfInBounds_toArray, List.set]
  refine wpAnyH_take (i := 9) (oi := _) (v := ?_) (by (simp only [List.getElem?_toArray]; rfl)) (by kernel_rfl) (by kernel_rfl) (by kernel_rfl) (by exact fun _ _ _ h => h) (Or.inl ⟨by rfl, ?_⟩) (by assumption) ?_
  rotate_left
  · intro wS hSw
    go_simp
    all_goals first | with_reducible rfl | rw [if_neg (by omega)]
  simp only [Act.put, List.setIfInBounds_toArray, List.set]
  refine wpAnyH_ready (rs := [10]) (by kernel_rfl) (by simp) ?_
  refine AllReadyH.cons (o := _) (by (simp only [List.getElem?_toArray]; rfl)) (fun K hK => ?_) AllReadyH.nil
  go_simp
  refine hK.out _ _ (KeptB.set (by simp) _ (KeptB.set (by simp) _ (KeptB.set (by simp) _ kS))) (fun hHeld => ?_)
  clear hK K
  try simp only [Act.put, List.setIfInBounds_toArray, List.set]
  refine wpAnyH_done (by kernel_rfl) ?_ _
  go_wp2_with fail
  refine bodyPost_ret (v := .agg #[.slice b0 n0 n0, .slice b1 n1 n1, .slice b2 n2 n2]) (by simp [results, Try.results82, go_sem, cz]) rfl ?_
  have sk := k.out.2.size
  refine ⟨b0, b1, b2, rfl, ?_, ?_, ?_, p01, p02, p12, ?_⟩
  · exact (((((R03.out.low (Nat.le_trans (show w.heap.size + 2 ≤ W.heap.size by omega) sk)).setOther (by simp) _).setOther (by simp) _).setOther (by simp) _)).low (by omega)
  · exact (((R13.out.setOther (by simp) _).setOther (by simp) _).setOther (by simp) _).low (by omega)
  · exact (((R23.out.setOther (by simp) _).setOther (by simp) _).setOther (by simp) _).low (by omega)
  · exact kW.trans ((((t3.out.2.mono (by omega)).setCell (by simp) _).setCell (by simp) _).setCell (by simp) _)
end Go.Proofs.Ytofedboeggdkaaa
