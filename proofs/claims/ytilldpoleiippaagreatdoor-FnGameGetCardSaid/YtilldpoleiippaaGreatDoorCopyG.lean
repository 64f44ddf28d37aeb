/- Contract of l2Copy; condition: small sizes. -/
import Derived.Test.YtilldpoleiippaaGreatDoorCopyOf
set_option linter.unusedSimpArgs false
set_option linter.unusedVariables false
namespace Go.Proofs.YtilldpoleiippaaGreatDoor
open Go.RowKit Go.Joins

structure Fin3 where
  x3 : Value
  x7 : Value
  x11 : Value
  a6 : Option Addr
  a8 : Option Addr
  a9 : Option Addr
  c6 : Nat
  c8 : Nat
  c9 : Nat
theorem introFinC {X : Type} {P : Program} {md : Region.Mode} {ops : Array Oper} {Q : Exit → Act → World → Prop} {S : World → Prop} {fuel0 : Nat} {listed0 : Array Bool} {ac0 : Act} {w0 : World} (fuel : Nat) (listed : Array Bool) (A : X → Act) (C : X → World → Prop)
    (hfin : ∀ x w', C x w' → wpAnyH P md ops Q S fuel listed (A x) w') (h : (∀ x w' l, l = listed → C x w' → wpAnyH P md ops Q S fuel l (A x) w') → wpAnyH P md ops Q S fuel0 listed0 ac0 w0) : wpAnyH P md ops Q S fuel0 listed0 ac0 w0 :=
  h fun x w' _ e c => e ▸ hfin x w' c

set_option maxRecDepth 100000 in
set_option maxHeartbeats 16000000 in
theorem l2Copy_c (z : Gm) (a0 a1 a2 : Option Addr) (n0 n1 n2 c0 c1 c2 : Nat) (w : World) (h0 : IsSl w (.slice a0 n0 c0) 5 Rq.cs z.es) (h1 : IsSl w (.slice a1 n1 c1) 1 intR z.fl) (h2 : IsSl w (.slice a2 n2 c2) 1 intR z.la) (hs0 : n0 ≤ 16777216) (hs1 : n1 ≤ 16777216) (hs2 : n2 ≤ 16777216) :
    Calls Tryz.prog 30 #[.agg #[.slice a0 n0 c0, .slice a1 n1 c1, .slice a2 n2 c2]] w fun e w' => ∃ v, e = .returned v ∧ OwnGm w' w.heap.size v z ∧ Below w.heap.size w w' := by
  have hn0 := h0.bounds.1
  have hn1 := h1.bounds.1
  have hn2 := h2.bounds.1
  have H0 := Lib.hid h0
  have H1 := Lib.hid h1
  have H2 := Lib.hid h2
  have hN0 := Lib.hid hn0
  have hN1 := Lib.hid hn1
  have hN2 := Lib.hid hn2
  clear h0 h1 h2 hn0 hn1 hn2
  go_enter Tryz.func30, Tryz.ntmps30
  go_wp2_with fail
  obtain ⟨W, hW, sW, aW, bW, kW⟩ := blocks2 w (.cells #[.slice a0 n0 c0, .slice a1 n1 c1, .slice a2 n2 c2] 27) (.cells #[.slice none 0 0, .slice none 0 0, .slice none 0 0] 27)
  rw [← hW]
  clear hW
  have hcA := cell_of_block aW
  have HB := Lib.hid bW
  clear bW
  refine wp_region_held_drew (S := fun w' => ((∀ b o, b < w.heap.size + 1 → (w').cell? ⟨b, o, none⟩ = (W).cell? ⟨b, o, none⟩) ∧ Below (w.heap.size + 1) (W) (w'))) (by kernel_rfl) (KeptB.drew (KeptB.refl _ _)) (fun hHeld => ?_)
  refine wpAnyH_take (i := 1) (oi := _) (v := ?_) (by (simp only [List.getElem?_toArray]; rfl)) (by kernel_rfl) (by kernel_rfl) (by kernel_rfl) (by exact fun _ _ _ h => h) (Or.inl ⟨by rfl, ?_⟩) (by assumption) ?_
  rotate_left
  · intro wS hSw
    go_simp
    all_goals first | with_reducible rfl | rw [if_neg (by omega)]
  simp only [Act.put, List.setIfInBounds_toArray, List.set]
  refine wpAnyH_take (i := 2) (oi := _) (v := ?_) (by (simp only [List.getElem?_toArray]; rfl)) (by kernel_rfl) (by kernel_rfl) (by kernel_rfl) (by exact fun _ _ _ h => h) (Or.inl ⟨by rfl, ?_⟩) (by assumption) ?_
  rotate_left
  · intro wS hSw
    go_simp
    all_goals first | with_reducible rfl | rw [if_neg (by omega)]
  simp only [Act.put, List.setIfInBounds_toArray, List.set]
  refine wpAnyH_take (i := 5) (oi := _) (v := ?_) (by (simp only [List.getElem?_toArray]; rfl)) (by kernel_rfl) (by kernel_rfl) (by kernel_rfl) (by exact fun _ _ _ h => h) (Or.inl ⟨by rfl, ?_⟩) (by assumption) ?_
  rotate_left
  · intro wS hSw
    go_simp
    all_goals first | with_reducible rfl | rw [if_neg (by omega)]
  simp only [Act.put, List.setIfInBounds_toArray, List.set]
  refine wpAnyH_take (i := 6) (oi := _) (v := ?_) (by (simp only [List.getElem?_toArray]; rfl)) (by kernel_rfl) (by kernel_rfl) (by kernel_rfl) (by exact fun _ _ _ h => h) (Or.inl ⟨by rfl, ?_⟩) (by assumption) ?_
  rotate_left
  · intro wS hSw
    go_simp
    all_goals first | with_reducible rfl | rw [if_neg (by omega)]
  simp only [Act.put, List.setIfInBounds_toArray, List.set]
  refine wpAnyH_take (i := 9) (oi := _) (v := ?_) (by (simp only [List.getElem?_toArray]; rfl)) (by kernel_rfl) (by kernel_rfl) (by kernel_rfl) (by exact fun _ _ _ h => h) (Or.inl ⟨by rfl, ?_⟩) (by assumption) ?_
  rotate_left
  · intro wS hSw
    go_simp
    all_goals first | with_reducible rfl | rw [if_neg (by omega)]
  simp only [Act.put, List.setIfInBounds_toArray, List.set]
  refine wpAnyH_take (i := 10) (oi := _) (v := ?_) (by (simp only [List.getElem?_toArray]; rfl)) (by kernel_rfl) (by kernel_rfl) (by kernel_rfl) (by exact fun _ _ _ h => h) (Or.inl ⟨by rfl, ?_⟩) (by assumption) ?_
  rotate_left
  · intro wS hSw
    go_simp
    all_goals first | with_reducible rfl | rw [if_neg (by omega)]
  simp only [Act.put, List.setIfInBounds_toArray, List.set]
  clear aW hcA hHeld
  have k := Lib.hid (KeptB.drew (KeptB.refl W.heap.size W))
  refine introFinC (X := Fin3) 2 #[true, true, true, true, true, true, true, true, true, true, true, true, false, false]
    (fun x => ⟨#[.agg #[.slice a0 n0 c0, .slice a1 n1 c1, .slice a2 n2 c2], .pointer (some ⟨w.heap.size, 0, none⟩), .pointer (some ⟨w.heap.size + 1, 0, none⟩), x.x3, .pointer (some ⟨w.heap.size, 0, none⟩), .slice a0 n0 c0, .slice x.a6 n0 x.c6, x.x7, .pointer (some ⟨w.heap.size, 1, none⟩), .slice a1 n1 c1, .slice x.a8 n1 x.c8, x.x11, .pointer (some ⟨w.heap.size, 2, none⟩), .slice a2 n2 c2, .slice x.a9 n2 x.c9, undef], []⟩)
    (fun x w' => ((∀ b o, b < W.heap.size → (w').cell? ⟨b, o, none⟩ = (W).cell? ⟨b, o, none⟩) ∧ Below (W.heap.size) (W) (w')) ∧ Row w' (w.heap.size + 2) 44 x.a6 x.c6 5 Rq.cs z.es ∧ Row w' (w.heap.size + 2) 3 x.a8 x.c8 1 intR z.fl ∧ Row w' (w.heap.size + 2) 3 x.a9 x.c9 1 intR z.la ∧
      (∀ g, rowBlk x.a8 x.c8 = some g → rowBlk x.a6 x.c6 ≠ some g) ∧ (∀ g, rowBlk x.a9 x.c9 = some g → rowBlk x.a6 x.c6 ≠ some g) ∧ (∀ g, rowBlk x.a9 x.c9 = some g → rowBlk x.a8 x.c8 ≠ some g)) ?_ (fun hfin => ?_)
  · rintro ⟨x3, x7, x11, a6, a8, a9, c6, c8, c9⟩ w9 ⟨k9, r6, r8, r9, p68, p69, p89⟩
    simp only at k9 r6 r8 r9 p68 p69 p89 ⊢
    have cz9 := fun i => (k9.1 (w.heap.size + 1) i (by omega)).trans (cell_of_block HB.out i)
    have fz9 : ∀ i, w9.frozen? ⟨w.heap.size + 1, i, none⟩ = false := fun i => (k9.2.frozen (p := ⟨w.heap.size + 1, i, none⟩) (by simp <;> omega)).trans (unfrozen_of_block HB.out i)
    have kS := KeptB.weak k9 (show w.heap.size + 1 ≤ W.heap.size by omega)
    have K9 := Lib.hid k9
    clear k9
    refine wpAnyH_take (i := 12) (oi := _) (v := ?_) (by (simp only [List.getElem?_toArray]; rfl)) (by kernel_rfl) (by kernel_rfl) (by kernel_rfl) (by exact fun _ _ _ h => h) (Or.inl ⟨by rfl, ?_⟩) (by assumption) ?_
    rotate_left
    · intro wS hSw
      go_simp
      all_goals first | with_reducible rfl | rw [if_neg (by omega)]
    simp only [Act.put, List.setIfInBounds_toArray, List.set]
    refine wpAnyH_ready (rs := [13]) (by kernel_rfl) (by simp) ?_
    refine AllReadyH.cons (o := _) (by (simp only [List.getElem?_toArray]; rfl)) (fun K hK => ?_) AllReadyH.nil
    go_simp
    refine hK.out _ _ (KeptB.set (by simp) _ (KeptB.set (by simp) _ (KeptB.set (by simp) _ kS))) (fun hHeld => ?_)
    clear hK K
    try simp only [Act.put, List.setIfInBounds_toArray, List.set]
    refine wpAnyH_done (by kernel_rfl) ?_ _
    go_wp2_with fail
    refine bodyPost_ret (v := .agg #[.slice a6 n0 c6, .slice a8 n1 c8, .slice a9 n2 c9]) (by simp [results, Tryz.results30, go_sem, cz9]) rfl ?_
    rw [← hN0.out, ← hN1.out, ← hN2.out]
    refine ⟨_, rfl, ⟨a6, c6, a8, c8, a9, c9, rfl, Row.low (B := w.heap.size + 2) ?_ (by omega), Row.low (B := w.heap.size + 2) ?_ (by omega), Row.low (B := w.heap.size + 2) ?_ (by omega), fun g u v => p68 g v u, fun g u v => p69 g v u, fun g u v => p89 g v u⟩, ?_⟩
    · exact ((r6.setOther (by simp) _).setOther (by simp) _).setOther (by simp) _
    · exact ((r8.setOther (by simp) _).setOther (by simp) _).setOther (by simp) _
    · exact ((r9.setOther (by simp) _).setOther (by simp) _).setOther (by simp) _
    · exact kW.trans ((((K9.out.2.mono (by omega)).setCell (by simp) _).setCell (by simp) _).setCell (by simp) _)
  refine wpAnyH_ready (rs := [0, 4, 8]) (by kernel_rfl) (by simp) ?_
  refine AllReadyH.cons (o := _) (by (simp only [List.getElem?_toArray]; rfl)) (fun K hK => ?_) ?_
  · skip
    refine step_build0 (by rfl) (by rfl) eltEnt ?_
    have kb0k := Lib.hid (KeptB.alloc (Nat.le_refl _) (.cells #[] 44) k.out)
    refine hK.out _ _ (KeptB.weak kb0k.out (by omega)) (fun hHeld => ?_)
    clear hK K hHeld
    simp only [Act.put, List.setIfInBounds_toArray, List.set]
    refine wpAnyH_ready (rs := [3, 4, 8]) (by kernel_rfl) (by simp) ?_
    refine AllReadyH.cons (o := _) (by (simp only [List.getElem?_toArray]; rfl)) (fun K hK => ?_) ?_
    · skip
      refine step_append_new (w.heap.size + 2) (by rfl) (.tmp 3) (.tmp 5) (by rfl) eltEnt (by rfl) (by rfl) (H0.out.rowsAt (kW.trans (kb0k.out.2.mono (by omega)))) hN0.out (by simp only [maxLen]; omega) (by omega) (by rw [← sW]; exact kb0k.out.2.size) ?_
      intro a6 c6 w6 q6
      have ka0kb0k := Lib.hid (KeptB.next (B := W.heap.size) (W := W) (Nat.le_refl _) kb0k.out q6.below)
      refine hK.out _ _ (KeptB.weak ka0kb0k.out (by omega)) (fun hHeld => ?_)
      clear hK K hHeld
      simp only [Act.put, List.setIfInBounds_toArray, List.set]
      refine wpAnyH_ready (rs := [4, 8]) (by kernel_rfl) (by simp) ?_
      refine AllReadyH.cons (o := _) (by (simp only [List.getElem?_toArray]; rfl)) (fun K hK => ?_) ?_
      · skip
        refine step_build0 (by rfl) (by rfl) eltInt ?_
        have kb1ka0kb0k := Lib.hid (KeptB.alloc (Nat.le_refl _) (.cells #[] 3) ka0kb0k.out)
        refine hK.out _ _ (KeptB.weak kb1ka0kb0k.out (by omega)) (fun hHeld => ?_)
        clear hK K hHeld
        simp only [Act.put, List.setIfInBounds_toArray, List.set]
        refine wpAnyH_ready (rs := [7, 8]) (by kernel_rfl) (by simp) ?_
        refine AllReadyH.cons (o := _) (by (simp only [List.getElem?_toArray]; rfl)) (fun K hK => ?_) ?_
        · skip
          refine step_append_new (w.heap.size + 2) (by rfl) (.tmp 7) (.tmp 9) (by rfl) eltInt (by rfl) (by rfl) (H1.out.rowsAt (kW.trans (kb1ka0kb0k.out.2.mono (by omega)))) hN1.out (by simp only [maxLen]; omega) (by omega) (by rw [← sW]; exact kb1ka0kb0k.out.2.size) ?_
          intro a8 c8 w8 q8
          have p68 := q8.apart ((q6.row).alloc _)
          have ka1kb1ka0kb0k := Lib.hid (KeptB.next (B := W.heap.size) (W := W) (Nat.le_refl _) kb1ka0kb0k.out q8.below)
          refine hK.out _ _ (KeptB.weak ka1kb1ka0kb0k.out (by omega)) (fun hHeld => ?_)
          clear hK K hHeld
          simp only [Act.put, List.setIfInBounds_toArray, List.set]
          refine wpAnyH_ready (rs := [8]) (by kernel_rfl) (by simp) ?_
          refine AllReadyH.cons (o := _) (by (simp only [List.getElem?_toArray]; rfl)) (fun K hK => ?_) ?_
          · skip
            refine step_build0 (by rfl) (by rfl) eltInt ?_
            have kb2ka1kb1ka0kb0k := Lib.hid (KeptB.alloc (Nat.le_refl _) (.cells #[] 3) ka1kb1ka0kb0k.out)
            refine hK.out _ _ (KeptB.weak kb2ka1kb1ka0kb0k.out (by omega)) (fun hHeld => ?_)
            clear hK K hHeld
            simp only [Act.put, List.setIfInBounds_toArray, List.set]
            refine wpAnyH_ready (rs := [11]) (by kernel_rfl) (by simp) ?_
            refine AllReadyH.cons (o := _) (by (simp only [List.getElem?_toArray]; rfl)) (fun K hK => ?_) ?_
            · skip
              refine step_append_new (w.heap.size + 2) (by rfl) (.tmp 11) (.tmp 13) (by rfl) eltInt (by rfl) (by rfl) (H2.out.rowsAt (kW.trans (kb2ka1kb1ka0kb0k.out.2.mono (by omega)))) hN2.out (by simp only [maxLen]; omega) (by omega) (by rw [← sW]; exact kb2ka1kb1ka0kb0k.out.2.size) ?_
              intro a9 c9 w9 q9
              have p69 := q9.apart ((((q6.row).alloc _).below q8.below).alloc _)
              have p89 := q9.apart ((q8.row).alloc _)
              have ka2kb2ka1kb1ka0kb0k := Lib.hid (KeptB.next (B := W.heap.size) (W := W) (Nat.le_refl _) kb2ka1kb1ka0kb0k.out q9.below)
              refine hK.out _ _ (KeptB.weak ka2kb2ka1kb1ka0kb0k.out (by omega)) (fun hHeld => ?_)
              clear hK K hHeld
              simp only [Act.put, List.setIfInBounds_toArray, List.set]
              exact hfin ⟨_, _, _, a6, a8, a9, c6, c8, c9⟩ _ _ (by kernel_rfl) ⟨ka2kb2ka1kb1ka0kb0k.out, ((((q6.row).alloc _).below q8.below).alloc _).below q9.below, ((q8.row).alloc _).below q9.below, q9.row, p68, p69, p89⟩
            exact AllReadyH.nil
          exact AllReadyH.nil
        refine AllReadyH.cons (o := _) (by (simp only [List.getElem?_toArray]; rfl)) (fun K hK => ?_) ?_
        · skip
          refine step_build0 (by rfl) (by rfl) eltInt ?_
          have kb2kb1ka0kb0k := Lib.hid (KeptB.alloc (Nat.le_refl _) (.cells #[] 3) kb1ka0kb0k.out)
          refine hK.out _ _ (KeptB.weak kb2kb1ka0kb0k.out (by omega)) (fun hHeld => ?_)
          clear hK K hHeld
          simp only [Act.put, List.setIfInBounds_toArray, List.set]
          refine wpAnyH_ready (rs := [7]) (by kernel_rfl) (by simp) ?_
          refine AllReadyH.cons (o := _) (by (simp only [List.getElem?_toArray]; rfl)) (fun K hK => ?_) ?_
          · skip
            refine step_append_new (w.heap.size + 2) (by rfl) (.tmp 7) (.tmp 9) (by rfl) eltInt (by rfl) (by rfl) (H1.out.rowsAt (kW.trans (kb2kb1ka0kb0k.out.2.mono (by omega)))) hN1.out (by simp only [maxLen]; omega) (by omega) (by rw [← sW]; exact kb2kb1ka0kb0k.out.2.size) ?_
            intro a8 c8 w8 q8
            have p68 := q8.apart (((q6.row).alloc _).alloc _)
            have ka1kb2kb1ka0kb0k := Lib.hid (KeptB.next (B := W.heap.size) (W := W) (Nat.le_refl _) kb2kb1ka0kb0k.out q8.below)
            refine hK.out _ _ (KeptB.weak ka1kb2kb1ka0kb0k.out (by omega)) (fun hHeld => ?_)
            clear hK K hHeld
            simp only [Act.put, List.setIfInBounds_toArray, List.set]
            refine wpAnyH_ready (rs := [11]) (by kernel_rfl) (by simp) ?_
            refine AllReadyH.cons (o := _) (by (simp only [List.getElem?_toArray]; rfl)) (fun K hK => ?_) ?_
            · skip
              refine step_append_new (w.heap.size + 2) (by rfl) (.tmp 11) (.tmp 13) (by rfl) eltInt (by rfl) (by rfl) (H2.out.rowsAt (kW.trans (ka1kb2kb1ka0kb0k.out.2.mono (by omega)))) hN2.out (by simp only [maxLen]; omega) (by omega) (by rw [← sW]; exact ka1kb2kb1ka0kb0k.out.2.size) ?_
              intro a9 c9 w9 q9
              have p69 := q9.apart ((((q6.row).alloc _).alloc _).below q8.below)
              have p89 := q9.apart (q8.row)
              have ka2ka1kb2kb1ka0kb0k := Lib.hid (KeptB.next (B := W.heap.size) (W := W) (Nat.le_refl _) ka1kb2kb1ka0kb0k.out q9.below)
              refine hK.out _ _ (KeptB.weak ka2ka1kb2kb1ka0kb0k.out (by omega)) (fun hHeld => ?_)
              clear hK K hHeld
              simp only [Act.put, List.setIfInBounds_toArray, List.set]
              exact hfin ⟨_, _, _, a6, a8, a9, c6, c8, c9⟩ _ _ (by kernel_rfl) ⟨ka2ka1kb2kb1ka0kb0k.out, ((((q6.row).alloc _).alloc _).below q8.below).below q9.below, (q8.row).below q9.below, q9.row, p68, p69, p89⟩
            exact AllReadyH.nil
          exact AllReadyH.nil
        exact AllReadyH.nil
      refine AllReadyH.cons (o := _) (by (simp only [List.getElem?_toArray]; rfl)) (fun K hK => ?_) ?_
      · skip
        refine step_build0 (by rfl) (by rfl) eltInt ?_
        have kb2ka0kb0k := Lib.hid (KeptB.alloc (Nat.le_refl _) (.cells #[] 3) ka0kb0k.out)
        refine hK.out _ _ (KeptB.weak kb2ka0kb0k.out (by omega)) (fun hHeld => ?_)
        clear hK K hHeld
        simp only [Act.put, List.setIfInBounds_toArray, List.set]
        refine wpAnyH_ready (rs := [4]) (by kernel_rfl) (by simp) ?_
        refine AllReadyH.cons (o := _) (by (simp only [List.getElem?_toArray]; rfl)) (fun K hK => ?_) ?_
        · skip
          refine step_build0 (by rfl) (by rfl) eltInt ?_
          have kb1kb2ka0kb0k := Lib.hid (KeptB.alloc (Nat.le_refl _) (.cells #[] 3) kb2ka0kb0k.out)
          refine hK.out _ _ (KeptB.weak kb1kb2ka0kb0k.out (by omega)) (fun hHeld => ?_)
          clear hK K hHeld
          simp only [Act.put, List.setIfInBounds_toArray, List.set]
          refine wpAnyH_ready (rs := [7]) (by kernel_rfl) (by simp) ?_
          refine AllReadyH.cons (o := _) (by (simp only [List.getElem?_toArray]; rfl)) (fun K hK => ?_) ?_
          · skip
            refine step_append_new (w.heap.size + 2) (by rfl) (.tmp 7) (.tmp 9) (by rfl) eltInt (by rfl) (by rfl) (H1.out.rowsAt (kW.trans (kb1kb2ka0kb0k.out.2.mono (by omega)))) hN1.out (by simp only [maxLen]; omega) (by omega) (by rw [← sW]; exact kb1kb2ka0kb0k.out.2.size) ?_
            intro a8 c8 w8 q8
            have p68 := q8.apart (((q6.row).alloc _).alloc _)
            have ka1kb1kb2ka0kb0k := Lib.hid (KeptB.next (B := W.heap.size) (W := W) (Nat.le_refl _) kb1kb2ka0kb0k.out q8.below)
            refine hK.out _ _ (KeptB.weak ka1kb1kb2ka0kb0k.out (by omega)) (fun hHeld => ?_)
            clear hK K hHeld
            simp only [Act.put, List.setIfInBounds_toArray, List.set]
            refine wpAnyH_ready (rs := [11]) (by kernel_rfl) (by simp) ?_
            refine AllReadyH.cons (o := _) (by (simp only [List.getElem?_toArray]; rfl)) (fun K hK => ?_) ?_
            · skip
              refine step_append_new (w.heap.size + 2) (by rfl) (.tmp 11) (.tmp 13) (by rfl) eltInt (by rfl) (by rfl) (H2.out.rowsAt (kW.trans (ka1kb1kb2ka0kb0k.out.2.mono (by omega)))) hN2.out (by simp only [maxLen]; omega) (by omega) (by rw [← sW]; exact ka1kb1kb2ka0kb0k.out.2.size) ?_
              intro a9 c9 w9 q9
              have p69 := q9.apart ((((q6.row).alloc _).alloc _).below q8.below)
              have p89 := q9.apart (q8.row)
              have ka2ka1kb1kb2ka0kb0k := Lib.hid (KeptB.next (B := W.heap.size) (W := W) (Nat.le_refl _) ka1kb1kb2ka0kb0k.out q9.below)
              refine hK.out _ _ (KeptB.weak ka2ka1kb1kb2ka0kb0k.out (by omega)) (fun hHeld => ?_)
              clear hK K hHeld
              simp only [Act.put, List.setIfInBounds_toArray, List.set]
              exact hfin ⟨_, _, _, a6, a8, a9, c6, c8, c9⟩ _ _ (by kernel_rfl) ⟨ka2ka1kb1kb2ka0kb0k.out, ((((q6.row).alloc _).alloc _).below q8.below).below q9.below, (q8.row).below q9.below, q9.row, p68, p69, p89⟩
            exact AllReadyH.nil
          exact AllReadyH.nil
        exact AllReadyH.nil
      exact AllReadyH.nil
    refine AllReadyH.cons (o := _) (by (simp only [List.getElem?_toArray]; rfl)) (fun K hK => ?_) ?_
    · skip
      refine step_build0 (by rfl) (by rfl) eltInt ?_
      have kb1kb0k := Lib.hid (KeptB.alloc (Nat.le_refl _) (.cells #[] 3) kb0k.out)
      refine hK.out _ _ (KeptB.weak kb1kb0k.out (by omega)) (fun hHeld => ?_)
      clear hK K hHeld
      simp only [Act.put, List.setIfInBounds_toArray, List.set]
      refine wpAnyH_ready (rs := [3, 8]) (by kernel_rfl) (by simp) ?_
      refine AllReadyH.cons (o := _) (by (simp only [List.getElem?_toArray]; rfl)) (fun K hK => ?_) ?_
      · skip
        refine step_append_new (w.heap.size + 2) (by rfl) (.tmp 3) (.tmp 5) (by rfl) eltEnt (by rfl) (by rfl) (H0.out.rowsAt (kW.trans (kb1kb0k.out.2.mono (by omega)))) hN0.out (by simp only [maxLen]; omega) (by omega) (by rw [← sW]; exact kb1kb0k.out.2.size) ?_
        intro a6 c6 w6 q6
        have ka0kb1kb0k := Lib.hid (KeptB.next (B := W.heap.size) (W := W) (Nat.le_refl _) kb1kb0k.out q6.below)
        refine hK.out _ _ (KeptB.weak ka0kb1kb0k.out (by omega)) (fun hHeld => ?_)
        clear hK K hHeld
        simp only [Act.put, List.setIfInBounds_toArray, List.set]
        refine wpAnyH_ready (rs := [7, 8]) (by kernel_rfl) (by simp) ?_
        refine AllReadyH.cons (o := _) (by (simp only [List.getElem?_toArray]; rfl)) (fun K hK => ?_) ?_
        · skip
          refine step_append_new (w.heap.size + 2) (by rfl) (.tmp 7) (.tmp 9) (by rfl) eltInt (by rfl) (by rfl) (H1.out.rowsAt (kW.trans (ka0kb1kb0k.out.2.mono (by omega)))) hN1.out (by simp only [maxLen]; omega) (by omega) (by rw [← sW]; exact ka0kb1kb0k.out.2.size) ?_
          intro a8 c8 w8 q8
          have p68 := q8.apart (q6.row)
          have ka1ka0kb1kb0k := Lib.hid (KeptB.next (B := W.heap.size) (W := W) (Nat.le_refl _) ka0kb1kb0k.out q8.below)
          refine hK.out _ _ (KeptB.weak ka1ka0kb1kb0k.out (by omega)) (fun hHeld => ?_)
          clear hK K hHeld
          simp only [Act.put, List.setIfInBounds_toArray, List.set]
          refine wpAnyH_ready (rs := [8]) (by kernel_rfl) (by simp) ?_
          refine AllReadyH.cons (o := _) (by (simp only [List.getElem?_toArray]; rfl)) (fun K hK => ?_) ?_
          · skip
            refine step_build0 (by rfl) (by rfl) eltInt ?_
            have kb2ka1ka0kb1kb0k := Lib.hid (KeptB.alloc (Nat.le_refl _) (.cells #[] 3) ka1ka0kb1kb0k.out)
            refine hK.out _ _ (KeptB.weak kb2ka1ka0kb1kb0k.out (by omega)) (fun hHeld => ?_)
            clear hK K hHeld
            simp only [Act.put, List.setIfInBounds_toArray, List.set]
            refine wpAnyH_ready (rs := [11]) (by kernel_rfl) (by simp) ?_
            refine AllReadyH.cons (o := _) (by (simp only [List.getElem?_toArray]; rfl)) (fun K hK => ?_) ?_
            · skip
              refine step_append_new (w.heap.size + 2) (by rfl) (.tmp 11) (.tmp 13) (by rfl) eltInt (by rfl) (by rfl) (H2.out.rowsAt (kW.trans (kb2ka1ka0kb1kb0k.out.2.mono (by omega)))) hN2.out (by simp only [maxLen]; omega) (by omega) (by rw [← sW]; exact kb2ka1ka0kb1kb0k.out.2.size) ?_
              intro a9 c9 w9 q9
              have p69 := q9.apart (((q6.row).below q8.below).alloc _)
              have p89 := q9.apart ((q8.row).alloc _)
              have ka2kb2ka1ka0kb1kb0k := Lib.hid (KeptB.next (B := W.heap.size) (W := W) (Nat.le_refl _) kb2ka1ka0kb1kb0k.out q9.below)
              refine hK.out _ _ (KeptB.weak ka2kb2ka1ka0kb1kb0k.out (by omega)) (fun hHeld => ?_)
              clear hK K hHeld
              simp only [Act.put, List.setIfInBounds_toArray, List.set]
              exact hfin ⟨_, _, _, a6, a8, a9, c6, c8, c9⟩ _ _ (by kernel_rfl) ⟨ka2kb2ka1ka0kb1kb0k.out, (((q6.row).below q8.below).alloc _).below q9.below, ((q8.row).alloc _).below q9.below, q9.row, p68, p69, p89⟩
            exact AllReadyH.nil
          exact AllReadyH.nil
        refine AllReadyH.cons (o := _) (by (simp only [List.getElem?_toArray]; rfl)) (fun K hK => ?_) ?_
        · skip
          refine step_build0 (by rfl) (by rfl) eltInt ?_
          have kb2ka0kb1kb0k := Lib.hid (KeptB.alloc (Nat.le_refl _) (.cells #[] 3) ka0kb1kb0k.out)
          refine hK.out _ _ (KeptB.weak kb2ka0kb1kb0k.out (by omega)) (fun hHeld => ?_)
          clear hK K hHeld
          simp only [Act.put, List.setIfInBounds_toArray, List.set]
          refine wpAnyH_ready (rs := [7]) (by kernel_rfl) (by simp) ?_
          refine AllReadyH.cons (o := _) (by (simp only [List.getElem?_toArray]; rfl)) (fun K hK => ?_) ?_
          · skip
            refine step_append_new (w.heap.size + 2) (by rfl) (.tmp 7) (.tmp 9) (by rfl) eltInt (by rfl) (by rfl) (H1.out.rowsAt (kW.trans (kb2ka0kb1kb0k.out.2.mono (by omega)))) hN1.out (by simp only [maxLen]; omega) (by omega) (by rw [← sW]; exact kb2ka0kb1kb0k.out.2.size) ?_
            intro a8 c8 w8 q8
            have p68 := q8.apart ((q6.row).alloc _)
            have ka1kb2ka0kb1kb0k := Lib.hid (KeptB.next (B := W.heap.size) (W := W) (Nat.le_refl _) kb2ka0kb1kb0k.out q8.below)
            refine hK.out _ _ (KeptB.weak ka1kb2ka0kb1kb0k.out (by omega)) (fun hHeld => ?_)
            clear hK K hHeld
            simp only [Act.put, List.setIfInBounds_toArray, List.set]
            refine wpAnyH_ready (rs := [11]) (by kernel_rfl) (by simp) ?_
            refine AllReadyH.cons (o := _) (by (simp only [List.getElem?_toArray]; rfl)) (fun K hK => ?_) ?_
            · skip
              refine step_append_new (w.heap.size + 2) (by rfl) (.tmp 11) (.tmp 13) (by rfl) eltInt (by rfl) (by rfl) (H2.out.rowsAt (kW.trans (ka1kb2ka0kb1kb0k.out.2.mono (by omega)))) hN2.out (by simp only [maxLen]; omega) (by omega) (by rw [← sW]; exact ka1kb2ka0kb1kb0k.out.2.size) ?_
              intro a9 c9 w9 q9
              have p69 := q9.apart (((q6.row).alloc _).below q8.below)
              have p89 := q9.apart (q8.row)
              have ka2ka1kb2ka0kb1kb0k := Lib.hid (KeptB.next (B := W.heap.size) (W := W) (Nat.le_refl _) ka1kb2ka0kb1kb0k.out q9.below)
              refine hK.out _ _ (KeptB.weak ka2ka1kb2ka0kb1kb0k.out (by omega)) (fun hHeld => ?_)
              clear hK K hHeld
              simp only [Act.put, List.setIfInBounds_toArray, List.set]
              exact hfin ⟨_, _, _, a6, a8, a9, c6, c8, c9⟩ _ _ (by kernel_rfl) ⟨ka2ka1kb2ka0kb1kb0k.out, (((q6.row).alloc _).below q8.below).below q9.below, (q8.row).below q9.below, q9.row, p68, p69, p89⟩
            exact AllReadyH.nil
          exact AllReadyH.nil
        exact AllReadyH.nil
      refine AllReadyH.cons (o := _) (by (simp only [List.getElem?_toArray]; rfl)) (fun K hK => ?_) ?_
      · skip
        refine step_build0 (by rfl) (by rfl) eltInt ?_
        have kb2kb1kb0k := Lib.hid (KeptB.alloc (Nat.le_refl _) (.cells #[] 3) kb1kb0k.out)
        refine hK.out _ _ (KeptB.weak kb2kb1kb0k.out (by omega)) (fun hHeld => ?_)
        clear hK K hHeld
        simp only [Act.put, List.setIfInBounds_toArray, List.set]
        refine wpAnyH_ready (rs := [3]) (by kernel_rfl) (by simp) ?_
        refine AllReadyH.cons (o := _) (by (simp only [List.getElem?_toArray]; rfl)) (fun K hK => ?_) ?_
        · skip
          refine step_append_new (w.heap.size + 2) (by rfl) (.tmp 3) (.tmp 5) (by rfl) eltEnt (by rfl) (by rfl) (H0.out.rowsAt (kW.trans (kb2kb1kb0k.out.2.mono (by omega)))) hN0.out (by simp only [maxLen]; omega) (by omega) (by rw [← sW]; exact kb2kb1kb0k.out.2.size) ?_
          intro a6 c6 w6 q6
          have ka0kb2kb1kb0k := Lib.hid (KeptB.next (B := W.heap.size) (W := W) (Nat.le_refl _) kb2kb1kb0k.out q6.below)
          refine hK.out _ _ (KeptB.weak ka0kb2kb1kb0k.out (by omega)) (fun hHeld => ?_)
          clear hK K hHeld
          simp only [Act.put, List.setIfInBounds_toArray, List.set]
          refine wpAnyH_ready (rs := [7]) (by kernel_rfl) (by simp) ?_
          refine AllReadyH.cons (o := _) (by (simp only [List.getElem?_toArray]; rfl)) (fun K hK => ?_) ?_
          · skip
            refine step_append_new (w.heap.size + 2) (by rfl) (.tmp 7) (.tmp 9) (by rfl) eltInt (by rfl) (by rfl) (H1.out.rowsAt (kW.trans (ka0kb2kb1kb0k.out.2.mono (by omega)))) hN1.out (by simp only [maxLen]; omega) (by omega) (by rw [← sW]; exact ka0kb2kb1kb0k.out.2.size) ?_
            intro a8 c8 w8 q8
            have p68 := q8.apart (q6.row)
            have ka1ka0kb2kb1kb0k := Lib.hid (KeptB.next (B := W.heap.size) (W := W) (Nat.le_refl _) ka0kb2kb1kb0k.out q8.below)
            refine hK.out _ _ (KeptB.weak ka1ka0kb2kb1kb0k.out (by omega)) (fun hHeld => ?_)
            clear hK K hHeld
            simp only [Act.put, List.setIfInBounds_toArray, List.set]
            refine wpAnyH_ready (rs := [11]) (by kernel_rfl) (by simp) ?_
            refine AllReadyH.cons (o := _) (by (simp only [List.getElem?_toArray]; rfl)) (fun K hK => ?_) ?_
            · skip
              refine step_append_new (w.heap.size + 2) (by rfl) (.tmp 11) (.tmp 13) (by rfl) eltInt (by rfl) (by rfl) (H2.out.rowsAt (kW.trans (ka1ka0kb2kb1kb0k.out.2.mono (by omega)))) hN2.out (by simp only [maxLen]; omega) (by omega) (by rw [← sW]; exact ka1ka0kb2kb1kb0k.out.2.size) ?_
              intro a9 c9 w9 q9
              have p69 := q9.apart ((q6.row).below q8.below)
              have p89 := q9.apart (q8.row)
              have ka2ka1ka0kb2kb1kb0k := Lib.hid (KeptB.next (B := W.heap.size) (W := W) (Nat.le_refl _) ka1ka0kb2kb1kb0k.out q9.below)
              refine hK.out _ _ (KeptB.weak ka2ka1ka0kb2kb1kb0k.out (by omega)) (fun hHeld => ?_)
              clear hK K hHeld
              simp only [Act.put, List.setIfInBounds_toArray, List.set]
              exact hfin ⟨_, _, _, a6, a8, a9, c6, c8, c9⟩ _ _ (by kernel_rfl) ⟨ka2ka1ka0kb2kb1kb0k.out, ((q6.row).below q8.below).below q9.below, (q8.row).below q9.below, q9.row, p68, p69, p89⟩
            exact AllReadyH.nil
          exact AllReadyH.nil
        exact AllReadyH.nil
      exact AllReadyH.nil
    refine AllReadyH.cons (o := _) (by (simp only [List.getElem?_toArray]; rfl)) (fun K hK => ?_) ?_
    · skip
      refine step_build0 (by rfl) (by rfl) eltInt ?_
      have kb2kb0k := Lib.hid (KeptB.alloc (Nat.le_refl _) (.cells #[] 3) kb0k.out)
      refine hK.out _ _ (KeptB.weak kb2kb0k.out (by omega)) (fun hHeld => ?_)
      clear hK K hHeld
      simp only [Act.put, List.setIfInBounds_toArray, List.set]
      refine wpAnyH_ready (rs := [3, 4]) (by kernel_rfl) (by simp) ?_
      refine AllReadyH.cons (o := _) (by (simp only [List.getElem?_toArray]; rfl)) (fun K hK => ?_) ?_
      · skip
        refine step_append_new (w.heap.size + 2) (by rfl) (.tmp 3) (.tmp 5) (by rfl) eltEnt (by rfl) (by rfl) (H0.out.rowsAt (kW.trans (kb2kb0k.out.2.mono (by omega)))) hN0.out (by simp only [maxLen]; omega) (by omega) (by rw [← sW]; exact kb2kb0k.out.2.size) ?_
        intro a6 c6 w6 q6
        have ka0kb2kb0k := Lib.hid (KeptB.next (B := W.heap.size) (W := W) (Nat.le_refl _) kb2kb0k.out q6.below)
        refine hK.out _ _ (KeptB.weak ka0kb2kb0k.out (by omega)) (fun hHeld => ?_)
        clear hK K hHeld
        simp only [Act.put, List.setIfInBounds_toArray, List.set]
        refine wpAnyH_ready (rs := [4]) (by kernel_rfl) (by simp) ?_
        refine AllReadyH.cons (o := _) (by (simp only [List.getElem?_toArray]; rfl)) (fun K hK => ?_) ?_
        · skip
          refine step_build0 (by rfl) (by rfl) eltInt ?_
          have kb1ka0kb2kb0k := Lib.hid (KeptB.alloc (Nat.le_refl _) (.cells #[] 3) ka0kb2kb0k.out)
          refine hK.out _ _ (KeptB.weak kb1ka0kb2kb0k.out (by omega)) (fun hHeld => ?_)
          clear hK K hHeld
          simp only [Act.put, List.setIfInBounds_toArray, List.set]
          refine wpAnyH_ready (rs := [7]) (by kernel_rfl) (by simp) ?_
          refine AllReadyH.cons (o := _) (by (simp only [List.getElem?_toArray]; rfl)) (fun K hK => ?_) ?_
          · skip
            refine step_append_new (w.heap.size + 2) (by rfl) (.tmp 7) (.tmp 9) (by rfl) eltInt (by rfl) (by rfl) (H1.out.rowsAt (kW.trans (kb1ka0kb2kb0k.out.2.mono (by omega)))) hN1.out (by simp only [maxLen]; omega) (by omega) (by rw [← sW]; exact kb1ka0kb2kb0k.out.2.size) ?_
            intro a8 c8 w8 q8
            have p68 := q8.apart ((q6.row).alloc _)
            have ka1kb1ka0kb2kb0k := Lib.hid (KeptB.next (B := W.heap.size) (W := W) (Nat.le_refl _) kb1ka0kb2kb0k.out q8.below)
            refine hK.out _ _ (KeptB.weak ka1kb1ka0kb2kb0k.out (by omega)) (fun hHeld => ?_)
            clear hK K hHeld
            simp only [Act.put, List.setIfInBounds_toArray, List.set]
            refine wpAnyH_ready (rs := [11]) (by kernel_rfl) (by simp) ?_
            refine AllReadyH.cons (o := _) (by (simp only [List.getElem?_toArray]; rfl)) (fun K hK => ?_) ?_
            · skip
              refine step_append_new (w.heap.size + 2) (by rfl) (.tmp 11) (.tmp 13) (by rfl) eltInt (by rfl) (by rfl) (H2.out.rowsAt (kW.trans (ka1kb1ka0kb2kb0k.out.2.mono (by omega)))) hN2.out (by simp only [maxLen]; omega) (by omega) (by rw [← sW]; exact ka1kb1ka0kb2kb0k.out.2.size) ?_
              intro a9 c9 w9 q9
              have p69 := q9.apart (((q6.row).alloc _).below q8.below)
              have p89 := q9.apart (q8.row)
              have ka2ka1kb1ka0kb2kb0k := Lib.hid (KeptB.next (B := W.heap.size) (W := W) (Nat.le_refl _) ka1kb1ka0kb2kb0k.out q9.below)
              refine hK.out _ _ (KeptB.weak ka2ka1kb1ka0kb2kb0k.out (by omega)) (fun hHeld => ?_)
              clear hK K hHeld
              simp only [Act.put, List.setIfInBounds_toArray, List.set]
              exact hfin ⟨_, _, _, a6, a8, a9, c6, c8, c9⟩ _ _ (by kernel_rfl) ⟨ka2ka1kb1ka0kb2kb0k.out, (((q6.row).alloc _).below q8.below).below q9.below, (q8.row).below q9.below, q9.row, p68, p69, p89⟩
            exact AllReadyH.nil
          exact AllReadyH.nil
        exact AllReadyH.nil
      refine AllReadyH.cons (o := _) (by (simp only [List.getElem?_toArray]; rfl)) (fun K hK => ?_) ?_
      · skip
        refine step_build0 (by rfl) (by rfl) eltInt ?_
        have kb1kb2kb0k := Lib.hid (KeptB.alloc (Nat.le_refl _) (.cells #[] 3) kb2kb0k.out)
        refine hK.out _ _ (KeptB.weak kb1kb2kb0k.out (by omega)) (fun hHeld => ?_)
        clear hK K hHeld
        simp only [Act.put, List.setIfInBounds_toArray, List.set]
        refine wpAnyH_ready (rs := [3]) (by kernel_rfl) (by simp) ?_
        refine AllReadyH.cons (o := _) (by (simp only [List.getElem?_toArray]; rfl)) (fun K hK => ?_) ?_
        · skip
          refine step_append_new (w.heap.size + 2) (by rfl) (.tmp 3) (.tmp 5) (by rfl) eltEnt (by rfl) (by rfl) (H0.out.rowsAt (kW.trans (kb1kb2kb0k.out.2.mono (by omega)))) hN0.out (by simp only [maxLen]; omega) (by omega) (by rw [← sW]; exact kb1kb2kb0k.out.2.size) ?_
          intro a6 c6 w6 q6
          have ka0kb1kb2kb0k := Lib.hid (KeptB.next (B := W.heap.size) (W := W) (Nat.le_refl _) kb1kb2kb0k.out q6.below)
          refine hK.out _ _ (KeptB.weak ka0kb1kb2kb0k.out (by omega)) (fun hHeld => ?_)
          clear hK K hHeld
          simp only [Act.put, List.setIfInBounds_toArray, List.set]
          refine wpAnyH_ready (rs := [7]) (by kernel_rfl) (by simp) ?_
          refine AllReadyH.cons (o := _) (by (simp only [List.getElem?_toArray]; rfl)) (fun K hK => ?_) ?_
          · skip
            refine step_append_new (w.heap.size + 2) (by rfl) (.tmp 7) (.tmp 9) (by rfl) eltInt (by rfl) (by rfl) (H1.out.rowsAt (kW.trans (ka0kb1kb2kb0k.out.2.mono (by omega)))) hN1.out (by simp only [maxLen]; omega) (by omega) (by rw [← sW]; exact ka0kb1kb2kb0k.out.2.size) ?_
            intro a8 c8 w8 q8
            have p68 := q8.apart (q6.row)
            have ka1ka0kb1kb2kb0k := Lib.hid (KeptB.next (B := W.heap.size) (W := W) (Nat.le_refl _) ka0kb1kb2kb0k.out q8.below)
            refine hK.out _ _ (KeptB.weak ka1ka0kb1kb2kb0k.out (by omega)) (fun hHeld => ?_)
            clear hK K hHeld
            simp only [Act.put, List.setIfInBounds_toArray, List.set]
            refine wpAnyH_ready (rs := [11]) (by kernel_rfl) (by simp) ?_
            refine AllReadyH.cons (o := _) (by (simp only [List.getElem?_toArray]; rfl)) (fun K hK => ?_) ?_
            · skip
              refine step_append_new (w.heap.size + 2) (by rfl) (.tmp 11) (.tmp 13) (by rfl) eltInt (by rfl) (by rfl) (H2.out.rowsAt (kW.trans (ka1ka0kb1kb2kb0k.out.2.mono (by omega)))) hN2.out (by simp only [maxLen]; omega) (by omega) (by rw [← sW]; exact ka1ka0kb1kb2kb0k.out.2.size) ?_
              intro a9 c9 w9 q9
              have p69 := q9.apart ((q6.row).below q8.below)
              have p89 := q9.apart (q8.row)
              have ka2ka1ka0kb1kb2kb0k := Lib.hid (KeptB.next (B := W.heap.size) (W := W) (Nat.le_refl _) ka1ka0kb1kb2kb0k.out q9.below)
              refine hK.out _ _ (KeptB.weak ka2ka1ka0kb1kb2kb0k.out (by omega)) (fun hHeld => ?_)
              clear hK K hHeld
              simp only [Act.put, List.setIfInBounds_toArray, List.set]
              exact hfin ⟨_, _, _, a6, a8, a9, c6, c8, c9⟩ _ _ (by kernel_rfl) ⟨ka2ka1ka0kb1kb2kb0k.out, ((q6.row).below q8.below).below q9.below, (q8.row).below q9.below, q9.row, p68, p69, p89⟩
            exact AllReadyH.nil
          exact AllReadyH.nil
        exact AllReadyH.nil
      exact AllReadyH.nil
    exact AllReadyH.nil
  refine AllReadyH.cons (o := _) (by (simp only [List.getElem?_toArray]; rfl)) (fun K hK => ?_) ?_
  · skip
    refine step_build0 (by rfl) (by rfl) eltInt ?_
    have kb1k := Lib.hid (KeptB.alloc (Nat.le_refl _) (.cells #[] 3) k.out)
    refine hK.out _ _ (KeptB.weak kb1k.out (by omega)) (fun hHeld => ?_)
    clear hK K hHeld
    simp only [Act.put, List.setIfInBounds_toArray, List.set]
    refine wpAnyH_ready (rs := [0, 8]) (by kernel_rfl) (by simp) ?_
    refine AllReadyH.cons (o := _) (by (simp only [List.getElem?_toArray]; rfl)) (fun K hK => ?_) ?_
    · skip
      refine step_build0 (by rfl) (by rfl) eltEnt ?_
      have kb0kb1k := Lib.hid (KeptB.alloc (Nat.le_refl _) (.cells #[] 44) kb1k.out)
      refine hK.out _ _ (KeptB.weak kb0kb1k.out (by omega)) (fun hHeld => ?_)
      clear hK K hHeld
      simp only [Act.put, List.setIfInBounds_toArray, List.set]
      refine wpAnyH_ready (rs := [3, 8]) (by kernel_rfl) (by simp) ?_
      refine AllReadyH.cons (o := _) (by (simp only [List.getElem?_toArray]; rfl)) (fun K hK => ?_) ?_
      · skip
        refine step_append_new (w.heap.size + 2) (by rfl) (.tmp 3) (.tmp 5) (by rfl) eltEnt (by rfl) (by rfl) (H0.out.rowsAt (kW.trans (kb0kb1k.out.2.mono (by omega)))) hN0.out (by simp only [maxLen]; omega) (by omega) (by rw [← sW]; exact kb0kb1k.out.2.size) ?_
        intro a6 c6 w6 q6
        have ka0kb0kb1k := Lib.hid (KeptB.next (B := W.heap.size) (W := W) (Nat.le_refl _) kb0kb1k.out q6.below)
        refine hK.out _ _ (KeptB.weak ka0kb0kb1k.out (by omega)) (fun hHeld => ?_)
        clear hK K hHeld
        simp only [Act.put, List.setIfInBounds_toArray, List.set]
        refine wpAnyH_ready (rs := [7, 8]) (by kernel_rfl) (by simp) ?_
        refine AllReadyH.cons (o := _) (by (simp only [List.getElem?_toArray]; rfl)) (fun K hK => ?_) ?_
        · skip
          refine step_append_new (w.heap.size + 2) (by rfl) (.tmp 7) (.tmp 9) (by rfl) eltInt (by rfl) (by rfl) (H1.out.rowsAt (kW.trans (ka0kb0kb1k.out.2.mono (by omega)))) hN1.out (by simp only [maxLen]; omega) (by omega) (by rw [← sW]; exact ka0kb0kb1k.out.2.size) ?_
          intro a8 c8 w8 q8
          have p68 := q8.apart (q6.row)
          have ka1ka0kb0kb1k := Lib.hid (KeptB.next (B := W.heap.size) (W := W) (Nat.le_refl _) ka0kb0kb1k.out q8.below)
          refine hK.out _ _ (KeptB.weak ka1ka0kb0kb1k.out (by omega)) (fun hHeld => ?_)
          clear hK K hHeld
          simp only [Act.put, List.setIfInBounds_toArray, List.set]
          refine wpAnyH_ready (rs := [8]) (by kernel_rfl) (by simp) ?_
          refine AllReadyH.cons (o := _) (by (simp only [List.getElem?_toArray]; rfl)) (fun K hK => ?_) ?_
          · skip
            refine step_build0 (by rfl) (by rfl) eltInt ?_
            have kb2ka1ka0kb0kb1k := Lib.hid (KeptB.alloc (Nat.le_refl _) (.cells #[] 3) ka1ka0kb0kb1k.out)
            refine hK.out _ _ (KeptB.weak kb2ka1ka0kb0kb1k.out (by omega)) (fun hHeld => ?_)
            clear hK K hHeld
            simp only [Act.put, List.setIfInBounds_toArray, List.set]
            refine wpAnyH_ready (rs := [11]) (by kernel_rfl) (by simp) ?_
            refine AllReadyH.cons (o := _) (by (simp only [List.getElem?_toArray]; rfl)) (fun K hK => ?_) ?_
            · skip
              refine step_append_new (w.heap.size + 2) (by rfl) (.tmp 11) (.tmp 13) (by rfl) eltInt (by rfl) (by rfl) (H2.out.rowsAt (kW.trans (kb2ka1ka0kb0kb1k.out.2.mono (by omega)))) hN2.out (by simp only [maxLen]; omega) (by omega) (by rw [← sW]; exact kb2ka1ka0kb0kb1k.out.2.size) ?_
              intro a9 c9 w9 q9
              have p69 := q9.apart (((q6.row).below q8.below).alloc _)
              have p89 := q9.apart ((q8.row).alloc _)
              have ka2kb2ka1ka0kb0kb1k := Lib.hid (KeptB.next (B := W.heap.size) (W := W) (Nat.le_refl _) kb2ka1ka0kb0kb1k.out q9.below)
              refine hK.out _ _ (KeptB.weak ka2kb2ka1ka0kb0kb1k.out (by omega)) (fun hHeld => ?_)
              clear hK K hHeld
              simp only [Act.put, List.setIfInBounds_toArray, List.set]
              exact hfin ⟨_, _, _, a6, a8, a9, c6, c8, c9⟩ _ _ (by kernel_rfl) ⟨ka2kb2ka1ka0kb0kb1k.out, (((q6.row).below q8.below).alloc _).below q9.below, ((q8.row).alloc _).below q9.below, q9.row, p68, p69, p89⟩
            exact AllReadyH.nil
          exact AllReadyH.nil
        refine AllReadyH.cons (o := _) (by (simp only [List.getElem?_toArray]; rfl)) (fun K hK => ?_) ?_
        · skip
          refine step_build0 (by rfl) (by rfl) eltInt ?_
          have kb2ka0kb0kb1k := Lib.hid (KeptB.alloc (Nat.le_refl _) (.cells #[] 3) ka0kb0kb1k.out)
          refine hK.out _ _ (KeptB.weak kb2ka0kb0kb1k.out (by omega)) (fun hHeld => ?_)
          clear hK K hHeld
          simp only [Act.put, List.setIfInBounds_toArray, List.set]
          refine wpAnyH_ready (rs := [7]) (by kernel_rfl) (by simp) ?_
          refine AllReadyH.cons (o := _) (by (simp only [List.getElem?_toArray]; rfl)) (fun K hK => ?_) ?_
          · skip
            refine step_append_new (w.heap.size + 2) (by rfl) (.tmp 7) (.tmp 9) (by rfl) eltInt (by rfl) (by rfl) (H1.out.rowsAt (kW.trans (kb2ka0kb0kb1k.out.2.mono (by omega)))) hN1.out (by simp only [maxLen]; omega) (by omega) (by rw [← sW]; exact kb2ka0kb0kb1k.out.2.size) ?_
            intro a8 c8 w8 q8
            have p68 := q8.apart ((q6.row).alloc _)
            have ka1kb2ka0kb0kb1k := Lib.hid (KeptB.next (B := W.heap.size) (W := W) (Nat.le_refl _) kb2ka0kb0kb1k.out q8.below)
            refine hK.out _ _ (KeptB.weak ka1kb2ka0kb0kb1k.out (by omega)) (fun hHeld => ?_)
            clear hK K hHeld
            simp only [Act.put, List.setIfInBounds_toArray, List.set]
            refine wpAnyH_ready (rs := [11]) (by kernel_rfl) (by simp) ?_
            refine AllReadyH.cons (o := _) (by (simp only [List.getElem?_toArray]; rfl)) (fun K hK => ?_) ?_
            · skip
              refine step_append_new (w.heap.size + 2) (by rfl) (.tmp 11) (.tmp 13) (by rfl) eltInt (by rfl) (by rfl) (H2.out.rowsAt (kW.trans (ka1kb2ka0kb0kb1k.out.2.mono (by omega)))) hN2.out (by simp only [maxLen]; omega) (by omega) (by rw [← sW]; exact ka1kb2ka0kb0kb1k.out.2.size) ?_
              intro a9 c9 w9 q9
              have p69 := q9.apart (((q6.row).alloc _).below q8.below)
              have p89 := q9.apart (q8.row)
              have ka2ka1kb2ka0kb0kb1k := Lib.hid (KeptB.next (B := W.heap.size) (W := W) (Nat.le_refl _) ka1kb2ka0kb0kb1k.out q9.below)
              refine hK.out _ _ (KeptB.weak ka2ka1kb2ka0kb0kb1k.out (by omega)) (fun hHeld => ?_)
              clear hK K hHeld
              simp only [Act.put, List.setIfInBounds_toArray, List.set]
              exact hfin ⟨_, _, _, a6, a8, a9, c6, c8, c9⟩ _ _ (by kernel_rfl) ⟨ka2ka1kb2ka0kb0kb1k.out, (((q6.row).alloc _).below q8.below).below q9.below, (q8.row).below q9.below, q9.row, p68, p69, p89⟩
            exact AllReadyH.nil
          exact AllReadyH.nil
        exact AllReadyH.nil
      refine AllReadyH.cons (o := _) (by (simp only [List.getElem?_toArray]; rfl)) (fun K hK => ?_) ?_
      · skip
        refine step_build0 (by rfl) (by rfl) eltInt ?_
        have kb2kb0kb1k := Lib.hid (KeptB.alloc (Nat.le_refl _) (.cells #[] 3) kb0kb1k.out)
        refine hK.out _ _ (KeptB.weak kb2kb0kb1k.out (by omega)) (fun hHeld => ?_)
        clear hK K hHeld
        simp only [Act.put, List.setIfInBounds_toArray, List.set]
        refine wpAnyH_ready (rs := [3]) (by kernel_rfl) (by simp) ?_
        refine AllReadyH.cons (o := _) (by (simp only [List.getElem?_toArray]; rfl)) (fun K hK => ?_) ?_
        · skip
          refine step_append_new (w.heap.size + 2) (by rfl) (.tmp 3) (.tmp 5) (by rfl) eltEnt (by rfl) (by rfl) (H0.out.rowsAt (kW.trans (kb2kb0kb1k.out.2.mono (by omega)))) hN0.out (by simp only [maxLen]; omega) (by omega) (by rw [← sW]; exact kb2kb0kb1k.out.2.size) ?_
          intro a6 c6 w6 q6
          have ka0kb2kb0kb1k := Lib.hid (KeptB.next (B := W.heap.size) (W := W) (Nat.le_refl _) kb2kb0kb1k.out q6.below)
          refine hK.out _ _ (KeptB.weak ka0kb2kb0kb1k.out (by omega)) (fun hHeld => ?_)
          clear hK K hHeld
          simp only [Act.put, List.setIfInBounds_toArray, List.set]
          refine wpAnyH_ready (rs := [7]) (by kernel_rfl) (by simp) ?_
          refine AllReadyH.cons (o := _) (by (simp only [List.getElem?_toArray]; rfl)) (fun K hK => ?_) ?_
          · skip
            refine step_append_new (w.heap.size + 2) (by rfl) (.tmp 7) (.tmp 9) (by rfl) eltInt (by rfl) (by rfl) (H1.out.rowsAt (kW.trans (ka0kb2kb0kb1k.out.2.mono (by omega)))) hN1.out (by simp only [maxLen]; omega) (by omega) (by rw [← sW]; exact ka0kb2kb0kb1k.out.2.size) ?_
            intro a8 c8 w8 q8
            have p68 := q8.apart (q6.row)
            have ka1ka0kb2kb0kb1k := Lib.hid (KeptB.next (B := W.heap.size) (W := W) (Nat.le_refl _) ka0kb2kb0kb1k.out q8.below)
            refine hK.out _ _ (KeptB.weak ka1ka0kb2kb0kb1k.out (by omega)) (fun hHeld => ?_)
            clear hK K hHeld
            simp only [Act.put, List.setIfInBounds_toArray, List.set]
            refine wpAnyH_ready (rs := [11]) (by kernel_rfl) (by simp) ?_
            refine AllReadyH.cons (o := _) (by (simp only [List.getElem?_toArray]; rfl)) (fun K hK => ?_) ?_
            · skip
              refine step_append_new (w.heap.size + 2) (by rfl) (.tmp 11) (.tmp 13) (by rfl) eltInt (by rfl) (by rfl) (H2.out.rowsAt (kW.trans (ka1ka0kb2kb0kb1k.out.2.mono (by omega)))) hN2.out (by simp only [maxLen]; omega) (by omega) (by rw [← sW]; exact ka1ka0kb2kb0kb1k.out.2.size) ?_
              intro a9 c9 w9 q9
              have p69 := q9.apart ((q6.row).below q8.below)
              have p89 := q9.apart (q8.row)
              have ka2ka1ka0kb2kb0kb1k := Lib.hid (KeptB.next (B := W.heap.size) (W := W) (Nat.le_refl _) ka1ka0kb2kb0kb1k.out q9.below)
              refine hK.out _ _ (KeptB.weak ka2ka1ka0kb2kb0kb1k.out (by omega)) (fun hHeld => ?_)
              clear hK K hHeld
              simp only [Act.put, List.setIfInBounds_toArray, List.set]
              exact hfin ⟨_, _, _, a6, a8, a9, c6, c8, c9⟩ _ _ (by kernel_rfl) ⟨ka2ka1ka0kb2kb0kb1k.out, ((q6.row).below q8.below).below q9.below, (q8.row).below q9.below, q9.row, p68, p69, p89⟩
            exact AllReadyH.nil
          exact AllReadyH.nil
        exact AllReadyH.nil
      exact AllReadyH.nil
    refine AllReadyH.cons (o := _) (by (simp only [List.getElem?_toArray]; rfl)) (fun K hK => ?_) ?_
    · skip
      refine step_build0 (by rfl) (by rfl) eltInt ?_
      have kb2kb1k := Lib.hid (KeptB.alloc (Nat.le_refl _) (.cells #[] 3) kb1k.out)
      refine hK.out _ _ (KeptB.weak kb2kb1k.out (by omega)) (fun hHeld => ?_)
      clear hK K hHeld
      simp only [Act.put, List.setIfInBounds_toArray, List.set]
      refine wpAnyH_ready (rs := [0]) (by kernel_rfl) (by simp) ?_
      refine AllReadyH.cons (o := _) (by (simp only [List.getElem?_toArray]; rfl)) (fun K hK => ?_) ?_
      · skip
        refine step_build0 (by rfl) (by rfl) eltEnt ?_
        have kb0kb2kb1k := Lib.hid (KeptB.alloc (Nat.le_refl _) (.cells #[] 44) kb2kb1k.out)
        refine hK.out _ _ (KeptB.weak kb0kb2kb1k.out (by omega)) (fun hHeld => ?_)
        clear hK K hHeld
        simp only [Act.put, List.setIfInBounds_toArray, List.set]
        refine wpAnyH_ready (rs := [3]) (by kernel_rfl) (by simp) ?_
        refine AllReadyH.cons (o := _) (by (simp only [List.getElem?_toArray]; rfl)) (fun K hK => ?_) ?_
        · skip
          refine step_append_new (w.heap.size + 2) (by rfl) (.tmp 3) (.tmp 5) (by rfl) eltEnt (by rfl) (by rfl) (H0.out.rowsAt (kW.trans (kb0kb2kb1k.out.2.mono (by omega)))) hN0.out (by simp only [maxLen]; omega) (by omega) (by rw [← sW]; exact kb0kb2kb1k.out.2.size) ?_
          intro a6 c6 w6 q6
          have ka0kb0kb2kb1k := Lib.hid (KeptB.next (B := W.heap.size) (W := W) (Nat.le_refl _) kb0kb2kb1k.out q6.below)
          refine hK.out _ _ (KeptB.weak ka0kb0kb2kb1k.out (by omega)) (fun hHeld => ?_)
          clear hK K hHeld
          simp only [Act.put, List.setIfInBounds_toArray, List.set]
          refine wpAnyH_ready (rs := [7]) (by kernel_rfl) (by simp) ?_
          refine AllReadyH.cons (o := _) (by (simp only [List.getElem?_toArray]; rfl)) (fun K hK => ?_) ?_
          · skip
            refine step_append_new (w.heap.size + 2) (by rfl) (.tmp 7) (.tmp 9) (by rfl) eltInt (by rfl) (by rfl) (H1.out.rowsAt (kW.trans (ka0kb0kb2kb1k.out.2.mono (by omega)))) hN1.out (by simp only [maxLen]; omega) (by omega) (by rw [← sW]; exact ka0kb0kb2kb1k.out.2.size) ?_
            intro a8 c8 w8 q8
            have p68 := q8.apart (q6.row)
            have ka1ka0kb0kb2kb1k := Lib.hid (KeptB.next (B := W.heap.size) (W := W) (Nat.le_refl _) ka0kb0kb2kb1k.out q8.below)
            refine hK.out _ _ (KeptB.weak ka1ka0kb0kb2kb1k.out (by omega)) (fun hHeld => ?_)
            clear hK K hHeld
            simp only [Act.put, List.setIfInBounds_toArray, List.set]
            refine wpAnyH_ready (rs := [11]) (by kernel_rfl) (by simp) ?_
            refine AllReadyH.cons (o := _) (by (simp only [List.getElem?_toArray]; rfl)) (fun K hK => ?_) ?_
            · skip
              refine step_append_new (w.heap.size + 2) (by rfl) (.tmp 11) (.tmp 13) (by rfl) eltInt (by rfl) (by rfl) (H2.out.rowsAt (kW.trans (ka1ka0kb0kb2kb1k.out.2.mono (by omega)))) hN2.out (by simp only [maxLen]; omega) (by omega) (by rw [← sW]; exact ka1ka0kb0kb2kb1k.out.2.size) ?_
              intro a9 c9 w9 q9
              have p69 := q9.apart ((q6.row).below q8.below)
              have p89 := q9.apart (q8.row)
              have ka2ka1ka0kb0kb2kb1k := Lib.hid (KeptB.next (B := W.heap.size) (W := W) (Nat.le_refl _) ka1ka0kb0kb2kb1k.out q9.below)
              refine hK.out _ _ (KeptB.weak ka2ka1ka0kb0kb2kb1k.out (by omega)) (fun hHeld => ?_)
              clear hK K hHeld
              simp only [Act.put, List.setIfInBounds_toArray, List.set]
              exact hfin ⟨_, _, _, a6, a8, a9, c6, c8, c9⟩ _ _ (by kernel_rfl) ⟨ka2ka1ka0kb0kb2kb1k.out, ((q6.row).below q8.below).below q9.below, (q8.row).below q9.below, q9.row, p68, p69, p89⟩
            exact AllReadyH.nil
          exact AllReadyH.nil
        exact AllReadyH.nil
      exact AllReadyH.nil
    exact AllReadyH.nil
  refine AllReadyH.cons (o := _) (by (simp only [List.getElem?_toArray]; rfl)) (fun K hK => ?_) ?_
  · skip
    refine step_build0 (by rfl) (by rfl) eltInt ?_
    have kb2k := Lib.hid (KeptB.alloc (Nat.le_refl _) (.cells #[] 3) k.out)
    refine hK.out _ _ (KeptB.weak kb2k.out (by omega)) (fun hHeld => ?_)
    clear hK K hHeld
    simp only [Act.put, List.setIfInBounds_toArray, List.set]
    refine wpAnyH_ready (rs := [0, 4]) (by kernel_rfl) (by simp) ?_
    refine AllReadyH.cons (o := _) (by (simp only [List.getElem?_toArray]; rfl)) (fun K hK => ?_) ?_
    · skip
      refine step_build0 (by rfl) (by rfl) eltEnt ?_
      have kb0kb2k := Lib.hid (KeptB.alloc (Nat.le_refl _) (.cells #[] 44) kb2k.out)
      refine hK.out _ _ (KeptB.weak kb0kb2k.out (by omega)) (fun hHeld => ?_)
      clear hK K hHeld
      simp only [Act.put, List.setIfInBounds_toArray, List.set]
      refine wpAnyH_ready (rs := [3, 4]) (by kernel_rfl) (by simp) ?_
      refine AllReadyH.cons (o := _) (by (simp only [List.getElem?_toArray]; rfl)) (fun K hK => ?_) ?_
      · skip
        refine step_append_new (w.heap.size + 2) (by rfl) (.tmp 3) (.tmp 5) (by rfl) eltEnt (by rfl) (by rfl) (H0.out.rowsAt (kW.trans (kb0kb2k.out.2.mono (by omega)))) hN0.out (by simp only [maxLen]; omega) (by omega) (by rw [← sW]; exact kb0kb2k.out.2.size) ?_
        intro a6 c6 w6 q6
        have ka0kb0kb2k := Lib.hid (KeptB.next (B := W.heap.size) (W := W) (Nat.le_refl _) kb0kb2k.out q6.below)
        refine hK.out _ _ (KeptB.weak ka0kb0kb2k.out (by omega)) (fun hHeld => ?_)
        clear hK K hHeld
        simp only [Act.put, List.setIfInBounds_toArray, List.set]
        refine wpAnyH_ready (rs := [4]) (by kernel_rfl) (by simp) ?_
        refine AllReadyH.cons (o := _) (by (simp only [List.getElem?_toArray]; rfl)) (fun K hK => ?_) ?_
        · skip
          refine step_build0 (by rfl) (by rfl) eltInt ?_
          have kb1ka0kb0kb2k := Lib.hid (KeptB.alloc (Nat.le_refl _) (.cells #[] 3) ka0kb0kb2k.out)
          refine hK.out _ _ (KeptB.weak kb1ka0kb0kb2k.out (by omega)) (fun hHeld => ?_)
          clear hK K hHeld
          simp only [Act.put, List.setIfInBounds_toArray, List.set]
          refine wpAnyH_ready (rs := [7]) (by kernel_rfl) (by simp) ?_
          refine AllReadyH.cons (o := _) (by (simp only [List.getElem?_toArray]; rfl)) (fun K hK => ?_) ?_
          · skip
            refine step_append_new (w.heap.size + 2) (by rfl) (.tmp 7) (.tmp 9) (by rfl) eltInt (by rfl) (by rfl) (H1.out.rowsAt (kW.trans (kb1ka0kb0kb2k.out.2.mono (by omega)))) hN1.out (by simp only [maxLen]; omega) (by omega) (by rw [← sW]; exact kb1ka0kb0kb2k.out.2.size) ?_
            intro a8 c8 w8 q8
            have p68 := q8.apart ((q6.row).alloc _)
            have ka1kb1ka0kb0kb2k := Lib.hid (KeptB.next (B := W.heap.size) (W := W) (Nat.le_refl _) kb1ka0kb0kb2k.out q8.below)
            refine hK.out _ _ (KeptB.weak ka1kb1ka0kb0kb2k.out (by omega)) (fun hHeld => ?_)
            clear hK K hHeld
            simp only [Act.put, List.setIfInBounds_toArray, List.set]
            refine wpAnyH_ready (rs := [11]) (by kernel_rfl) (by simp) ?_
            refine AllReadyH.cons (o := _) (by (simp only [List.getElem?_toArray]; rfl)) (fun K hK => ?_) ?_
            · skip
              refine step_append_new (w.heap.size + 2) (by rfl) (.tmp 11) (.tmp 13) (by rfl) eltInt (by rfl) (by rfl) (H2.out.rowsAt (kW.trans (ka1kb1ka0kb0kb2k.out.2.mono (by omega)))) hN2.out (by simp only [maxLen]; omega) (by omega) (by rw [← sW]; exact ka1kb1ka0kb0kb2k.out.2.size) ?_
              intro a9 c9 w9 q9
              have p69 := q9.apart (((q6.row).alloc _).below q8.below)
              have p89 := q9.apart (q8.row)
              have ka2ka1kb1ka0kb0kb2k := Lib.hid (KeptB.next (B := W.heap.size) (W := W) (Nat.le_refl _) ka1kb1ka0kb0kb2k.out q9.below)
              refine hK.out _ _ (KeptB.weak ka2ka1kb1ka0kb0kb2k.out (by omega)) (fun hHeld => ?_)
              clear hK K hHeld
              simp only [Act.put, List.setIfInBounds_toArray, List.set]
              exact hfin ⟨_, _, _, a6, a8, a9, c6, c8, c9⟩ _ _ (by kernel_rfl) ⟨ka2ka1kb1ka0kb0kb2k.out, (((q6.row).alloc _).below q8.below).below q9.below, (q8.row).below q9.below, q9.row, p68, p69, p89⟩
            exact AllReadyH.nil
          exact AllReadyH.nil
        exact AllReadyH.nil
      refine AllReadyH.cons (o := _) (by (simp only [List.getElem?_toArray]; rfl)) (fun K hK => ?_) ?_
      · skip
        refine step_build0 (by rfl) (by rfl) eltInt ?_
        have kb1kb0kb2k := Lib.hid (KeptB.alloc (Nat.le_refl _) (.cells #[] 3) kb0kb2k.out)
        refine hK.out _ _ (KeptB.weak kb1kb0kb2k.out (by omega)) (fun hHeld => ?_)
        clear hK K hHeld
        simp only [Act.put, List.setIfInBounds_toArray, List.set]
        refine wpAnyH_ready (rs := [3]) (by kernel_rfl) (by simp) ?_
        refine AllReadyH.cons (o := _) (by (simp only [List.getElem?_toArray]; rfl)) (fun K hK => ?_) ?_
        · skip
          refine step_append_new (w.heap.size + 2) (by rfl) (.tmp 3) (.tmp 5) (by rfl) eltEnt (by rfl) (by rfl) (H0.out.rowsAt (kW.trans (kb1kb0kb2k.out.2.mono (by omega)))) hN0.out (by simp only [maxLen]; omega) (by omega) (by rw [← sW]; exact kb1kb0kb2k.out.2.size) ?_
          intro a6 c6 w6 q6
          have ka0kb1kb0kb2k := Lib.hid (KeptB.next (B := W.heap.size) (W := W) (Nat.le_refl _) kb1kb0kb2k.out q6.below)
          refine hK.out _ _ (KeptB.weak ka0kb1kb0kb2k.out (by omega)) (fun hHeld => ?_)
          clear hK K hHeld
          simp only [Act.put, List.setIfInBounds_toArray, List.set]
          refine wpAnyH_ready (rs := [7]) (by kernel_rfl) (by simp) ?_
          refine AllReadyH.cons (o := _) (by (simp only [List.getElem?_toArray]; rfl)) (fun K hK => ?_) ?_
          · skip
            refine step_append_new (w.heap.size + 2) (by rfl) (.tmp 7) (.tmp 9) (by rfl) eltInt (by rfl) (by rfl) (H1.out.rowsAt (kW.trans (ka0kb1kb0kb2k.out.2.mono (by omega)))) hN1.out (by simp only [maxLen]; omega) (by omega) (by rw [← sW]; exact ka0kb1kb0kb2k.out.2.size) ?_
            intro a8 c8 w8 q8
            have p68 := q8.apart (q6.row)
            have ka1ka0kb1kb0kb2k := Lib.hid (KeptB.next (B := W.heap.size) (W := W) (Nat.le_refl _) ka0kb1kb0kb2k.out q8.below)
            refine hK.out _ _ (KeptB.weak ka1ka0kb1kb0kb2k.out (by omega)) (fun hHeld => ?_)
            clear hK K hHeld
            simp only [Act.put, List.setIfInBounds_toArray, List.set]
            refine wpAnyH_ready (rs := [11]) (by kernel_rfl) (by simp) ?_
            refine AllReadyH.cons (o := _) (by (simp only [List.getElem?_toArray]; rfl)) (fun K hK => ?_) ?_
            · skip
              refine step_append_new (w.heap.size + 2) (by rfl) (.tmp 11) (.tmp 13) (by rfl) eltInt (by rfl) (by rfl) (H2.out.rowsAt (kW.trans (ka1ka0kb1kb0kb2k.out.2.mono (by omega)))) hN2.out (by simp only [maxLen]; omega) (by omega) (by rw [← sW]; exact ka1ka0kb1kb0kb2k.out.2.size) ?_
              intro a9 c9 w9 q9
              have p69 := q9.apart ((q6.row).below q8.below)
              have p89 := q9.apart (q8.row)
              have ka2ka1ka0kb1kb0kb2k := Lib.hid (KeptB.next (B := W.heap.size) (W := W) (Nat.le_refl _) ka1ka0kb1kb0kb2k.out q9.below)
              refine hK.out _ _ (KeptB.weak ka2ka1ka0kb1kb0kb2k.out (by omega)) (fun hHeld => ?_)
              clear hK K hHeld
              simp only [Act.put, List.setIfInBounds_toArray, List.set]
              exact hfin ⟨_, _, _, a6, a8, a9, c6, c8, c9⟩ _ _ (by kernel_rfl) ⟨ka2ka1ka0kb1kb0kb2k.out, ((q6.row).below q8.below).below q9.below, (q8.row).below q9.below, q9.row, p68, p69, p89⟩
            exact AllReadyH.nil
          exact AllReadyH.nil
        exact AllReadyH.nil
      exact AllReadyH.nil
    refine AllReadyH.cons (o := _) (by (simp only [List.getElem?_toArray]; rfl)) (fun K hK => ?_) ?_
    · skip
      refine step_build0 (by rfl) (by rfl) eltInt ?_
      have kb1kb2k := Lib.hid (KeptB.alloc (Nat.le_refl _) (.cells #[] 3) kb2k.out)
      refine hK.out _ _ (KeptB.weak kb1kb2k.out (by omega)) (fun hHeld => ?_)
      clear hK K hHeld
      simp only [Act.put, List.setIfInBounds_toArray, List.set]
      refine wpAnyH_ready (rs := [0]) (by kernel_rfl) (by simp) ?_
      refine AllReadyH.cons (o := _) (by (simp only [List.getElem?_toArray]; rfl)) (fun K hK => ?_) ?_
      · skip
        refine step_build0 (by rfl) (by rfl) eltEnt ?_
        have kb0kb1kb2k := Lib.hid (KeptB.alloc (Nat.le_refl _) (.cells #[] 44) kb1kb2k.out)
        refine hK.out _ _ (KeptB.weak kb0kb1kb2k.out (by omega)) (fun hHeld => ?_)
        clear hK K hHeld
        simp only [Act.put, List.setIfInBounds_toArray, List.set]
        refine wpAnyH_ready (rs := [3]) (by kernel_rfl) (by simp) ?_
        refine AllReadyH.cons (o := _) (by (simp only [List.getElem?_toArray]; rfl)) (fun K hK => ?_) ?_
        · skip
          refine step_append_new (w.heap.size + 2) (by rfl) (.tmp 3) (.tmp 5) (by rfl) eltEnt (by rfl) (by rfl) (H0.out.rowsAt (kW.trans (kb0kb1kb2k.out.2.mono (by omega)))) hN0.out (by simp only [maxLen]; omega) (by omega) (by rw [← sW]; exact kb0kb1kb2k.out.2.size) ?_
          intro a6 c6 w6 q6
          have ka0kb0kb1kb2k := Lib.hid (KeptB.next (B := W.heap.size) (W := W) (Nat.le_refl _) kb0kb1kb2k.out q6.below)
          refine hK.out _ _ (KeptB.weak ka0kb0kb1kb2k.out (by omega)) (fun hHeld => ?_)
          clear hK K hHeld
          simp only [Act.put, List.setIfInBounds_toArray, List.set]
          refine wpAnyH_ready (rs := [7]) (by kernel_rfl) (by simp) ?_
          refine AllReadyH.cons (o := _) (by (simp only [List.getElem?_toArray]; rfl)) (fun K hK => ?_) ?_
          · skip
            refine step_append_new (w.heap.size + 2) (by rfl) (.tmp 7) (.tmp 9) (by rfl) eltInt (by rfl) (by rfl) (H1.out.rowsAt (kW.trans (ka0kb0kb1kb2k.out.2.mono (by omega)))) hN1.out (by simp only [maxLen]; omega) (by omega) (by rw [← sW]; exact ka0kb0kb1kb2k.out.2.size) ?_
            intro a8 c8 w8 q8
            have p68 := q8.apart (q6.row)
            have ka1ka0kb0kb1kb2k := Lib.hid (KeptB.next (B := W.heap.size) (W := W) (Nat.le_refl _) ka0kb0kb1kb2k.out q8.below)
            refine hK.out _ _ (KeptB.weak ka1ka0kb0kb1kb2k.out (by omega)) (fun hHeld => ?_)
            clear hK K hHeld
            simp only [Act.put, List.setIfInBounds_toArray, List.set]
            refine wpAnyH_ready (rs := [11]) (by kernel_rfl) (by simp) ?_
            refine AllReadyH.cons (o := _) (by (simp only [List.getElem?_toArray]; rfl)) (fun K hK => ?_) ?_
            · skip
              refine step_append_new (w.heap.size + 2) (by rfl) (.tmp 11) (.tmp 13) (by rfl) eltInt (by rfl) (by rfl) (H2.out.rowsAt (kW.trans (ka1ka0kb0kb1kb2k.out.2.mono (by omega)))) hN2.out (by simp only [maxLen]; omega) (by omega) (by rw [← sW]; exact ka1ka0kb0kb1kb2k.out.2.size) ?_
              intro a9 c9 w9 q9
              have p69 := q9.apart ((q6.row).below q8.below)
              have p89 := q9.apart (q8.row)
              have ka2ka1ka0kb0kb1kb2k := Lib.hid (KeptB.next (B := W.heap.size) (W := W) (Nat.le_refl _) ka1ka0kb0kb1kb2k.out q9.below)
              refine hK.out _ _ (KeptB.weak ka2ka1ka0kb0kb1kb2k.out (by omega)) (fun hHeld => ?_)
              clear hK K hHeld
              simp only [Act.put, List.setIfInBounds_toArray, List.set]
              exact hfin ⟨_, _, _, a6, a8, a9, c6, c8, c9⟩ _ _ (by kernel_rfl) ⟨ka2ka1ka0kb0kb1kb2k.out, ((q6.row).below q8.below).below q9.below, (q8.row).below q9.below, q9.row, p68, p69, p89⟩
            exact AllReadyH.nil
          exact AllReadyH.nil
        exact AllReadyH.nil
      exact AllReadyH.nil
    exact AllReadyH.nil
  exact AllReadyH.nil
end Go.Proofs.YtilldpoleiippaaGreatDoor
