/- The walk of FnExactGameDo; no condition. -/
import Derived.Test.YtofedboeggdkaaaMarkGm
import Derived.Test.YtofedboeggdkaaaDoS
namespace Go.Proofs.Ytofedboeggdkaaa
open Go.RowKit Go.Joins

set_option maxRecDepth 100000 in
set_option maxHeartbeats 16000000 in
theorem fnExactGameDo.walk (v0 : Value) (z : Gm) (v1 : Value) (r : Rq) (w : World) (h0 : IsGm w v0 z) (h1 : IsRq v1 r) :
    Calls Try.prog 12 #[v0, v1] w fun e w' => e = .returned (.bool true) ∧ Below w.heap.size w w' := by
  obtain ⟨u0, u1, u2, rfl, ⟨a0, c0, rfl, hl0, hm0, hr0⟩, ⟨a1, c1, rfl, hl1, hm1, hr1⟩, ⟨a2, c2, rfl, hl2, hm2, hr2⟩⟩ := h0
  subst h1
  have S0 := Lib.hid (show IsSl w (.slice a0 z.es.length c0) 5 Rq.cs z.es from ⟨a0, c0, rfl, hl0, hm0, hr0⟩)
  have S1 := Lib.hid (show IsSl w (.slice a1 z.fl.length c1) 1 intR z.fl from ⟨a1, c1, rfl, hl1, hm1, hr1⟩)
  have S2 := Lib.hid (show IsSl w (.slice a2 z.la.length c2) 1 intR z.la from ⟨a2, c2, rfl, hl2, hm2, hr2⟩)
  have HM := Lib.hid (And.intro hm0 (And.intro hm1 hm2))
  clear hr0 hm0 hr1 hm1 hr2 hm2
  go_enter Try.func12, Try.ntmps12
  go_wp2_with fail
  obtain ⟨W, hW, sW, aW, bW, kW⟩ := blocks2 w (.cells #[.slice a0 z.es.length c0, .slice a1 z.fl.length c1, .slice a2 z.la.length c2] 67) (.cells #[.int .i64 r.c, .int .i64 r.n, .int .i64 r.o, .int .i64 r.x, .int .i64 r.y] 26)
  rw [← hW]
  clear hW
  replace aW := Lib.hid aW
  replace bW := Lib.hid bW
  have KK := Lib.hid kW
  clear kW
  refine (szGame_c a0 a1 a2 _ _ _ c0 c1 c2 _ hl0 HM.out.1 hl1 HM.out.2.1 hl2 HM.out.2.2).mono ?_
  rintro e w1 ⟨rfl, k1⟩
  replace aW := Lib.hid (carryN k1 aW.out)
  replace bW := Lib.hid (carryN k1 bW.out)
  replace KK := Lib.hid (below_next KK.out k1)
  clear k1
  have caW := cell_of_block aW.out
  have laW := lt_of_block aW.out
  have cbW := cell_of_block bW.out
  have lbW := lt_of_block bW.out
  by_cases hs : z.es.length + z.fl.length + z.la.length ≤ 1048576
  case neg =>
    rw [if_neg hs]
    go_wp2_with fail
    go_ret
    exact ⟨rfl, KK.out⟩
  rw [if_pos hs]
  have hs' : ¬ (1048576 - (z.es.length : Int) - (z.fl.length : Int) - (z.la.length : Int)) < 0 := by omega
  have CS := fun a0 a1 a2 c0 c1 c2 w => sGameDo_c z r a0 a1 a2 c0 c1 c2 w
  have CI := fun a0 a1 a2 c0 c1 c2 w => GameDo_c z r a0 a1 a2 c0 c1 c2 w
  have hy := doR_len z r hs
  generalize (doR z r).1 = y at CS CI hy
  generalize (doR z r).2 = b at CS CI
  replace CS := Lib.hid CS
  replace CI := Lib.hid CI
  have hz0 : z.es.length ≤ 1048576 := by omega
  have hz1 : z.fl.length ≤ 1048576 := by omega
  have hz2 : z.la.length ≤ 1048576 := by omega
  go_wp2_with fail
  refine wp_region_held_drew (S := fun w' => ((∀ b o, b < w1.heap.size → (w').cell? ⟨b, o, none⟩ = (w1).cell? ⟨b, o, none⟩) ∧ Below (w1.heap.size) (w1) (w'))) (by kernel_rfl) (KeptB.drew (KeptB.refl _ _)) (fun hHeld => ?_)
  refine introFin2 (X := Xs) 0 #[true, true, true, true, true, true, true, true, true, true, true] (fun x T => ((((((((((T).setIfInBounds 22 (.agg #[.slice a0 z.es.length c0, .slice a1 z.fl.length c1, .slice a2 z.la.length c2])).setIfInBounds 24 (.agg #[.int .i64 r.c, .int .i64 r.n, .int .i64 r.o, .int .i64 r.x, .int .i64 r.y])).setIfInBounds 23 (x.v0)).setIfInBounds 25 (.agg #[.int .i64 r.c, .int .i64 r.n, .int .i64 r.o, .int .i64 r.x, .int .i64 r.y])).setIfInBounds 26 (.tuple #[.agg #[.slice x.a0 y.es.length x.c0, .slice x.a1 y.fl.length x.c1, .slice x.a2 y.la.length x.c2], .int .i64 b])).setIfInBounds 21 (.tuple #[.agg #[.slice x.a0 y.es.length x.c0, .slice x.a1 y.fl.length x.c1, .slice x.a2 y.la.length x.c2], .int .i64 b])).setIfInBounds 27 (.agg #[.slice x.a0 y.es.length x.c0, .slice x.a1 y.fl.length x.c1, .slice x.a2 y.la.length x.c2])).setIfInBounds 28 (.int .i64 b)).setIfInBounds 7 (.int .i64 b)).setIfInBounds 6 (.pointer (some ⟨x.x, 0, none⟩))) (fun x w' => (((∀ b o, b < w1.heap.size → (w').cell? ⟨b, o, none⟩ = (w1).cell? ⟨b, o, none⟩) ∧ Below (w1.heap.size) (w1) (w'))) ∧ w'.heap[x.x]? = some (.cells #[.slice x.a0 y.es.length x.c0, .slice x.a1 y.fl.length x.c1, .slice x.a2 y.la.length x.c2] 46 (0, 0)) ∧ w1.heap.size ≤ x.x ∧ Row w' w1.heap.size 92 x.a0 x.c0 5 Rq.cs y.es ∧ Row w' w1.heap.size 3 x.a1 x.c1 1 intR y.fl ∧ Row w' w1.heap.size 3 x.a2 x.c2 1 intR y.la ∧ (∀ g, rowBlk x.a0 x.c0 = some g → g ≠ x.x) ∧ (∀ g, rowBlk x.a1 x.c1 = some g → g ≠ x.x) ∧ (∀ g, rowBlk x.a2 x.c2 = some g → g ≠ x.x)) ?_ (fun hfin => ?_)
  rotate_left
  · obtain ⟨wd, hwd, kwd⟩ : ∃ wd, wd = w1.drew ∧ Below w1.heap.size w1 wd := ⟨_, rfl, Below.drew (Below.refl _ _)⟩
    rw [← hwd] at hHeld ⊢
    clear hwd
    have RK := Lib.hid (KeptB.of kwd)
    clear kwd
    refine wpAnyH_take (i := 0) (oi := _) (v := ?_) (by (simp only [List.getElem?_toArray]; rfl)) (by kernel_rfl) (by kernel_rfl) (by kernel_rfl) (by exact fun _ _ _ h => h) (Or.inl ⟨by rfl, ?_⟩) (by assumption) ?_
    rotate_left
    · intro wS hSw
      go_simp
      all_goals first | with_reducible rfl | rw [if_neg (by omega)]
    simp only [Act.put, List.setIfInBounds_toArray, List.set]
    refine wpAnyH_take (i := 2) (oi := _) (v := ?_) (by (simp only [List.getElem?_toArray]; rfl)) (by kernel_rfl) (by kernel_rfl) (by kernel_rfl) (by exact fun _ _ _ h => h) (Or.inl ⟨by rfl, ?_⟩) (by assumption) ?_
    rotate_left
    · intro wS hSw
      go_simp
      all_goals first | with_reducible rfl | rw [if_neg (by omega)]
    simp only [Act.put, List.setIfInBounds_toArray, List.set]
    refine wpAnyH_ready (rs := [1, 8]) (by kernel_rfl) (by simp) ?_
    refine AllReadyH.cons (o := _) (by (simp only [List.getElem?_toArray]; rfl)) (fun K hK => ?_) ?_
    · skip
      go_simp
      refine (toGame_b z _ _ _ _ _ _ _ (S0.out.below (below_next KK.out RK.out.2)) (S1.out.below (below_next KK.out RK.out.2)) (S2.out.below (below_next KK.out RK.out.2)) hz0 hz1 hz2).mono ?_
      rintro e wkC0RK ⟨gc0, gc1, gc2, rfl, q0, q1, q2, hg0, hg1, hg2, kk⟩
      have kC0RK := Lib.hid (KeptB.next (Nat.le_refl _) RK.out kk)
      clear kk
      refine hK.out _ _ kC0RK.out (fun hHeld => ?_)
      clear hK K hHeld
      try simp only [Act.put, List.setIfInBounds_toArray, List.set]
      refine wpAnyH_ready (rs := [3, 8]) (by kernel_rfl) (by simp) ?_
      refine AllReadyH.cons (o := _) (by (simp only [List.getElem?_toArray]; rfl)) (fun K hK => ?_) ?_
      · skip
        go_simp
        refine (toReq_c r.c r.n r.o r.x r.y _).mono ?_
        rintro e wkC1kC0RK ⟨rfl, kk⟩
        replace q0 := carryN kk q0
        replace q1 := carryN kk q1
        replace q2 := carryN kk q2
        have kC1kC0RK := Lib.hid (KeptB.next (Nat.le_refl _) kC0RK.out kk)
        clear kk
        refine hK.out _ _ kC1kC0RK.out (fun hHeld => ?_)
        clear hK K hHeld
        try simp only [Act.put, List.setIfInBounds_toArray, List.set]
        refine wpAnyH_ready (rs := [4, 8]) (by kernel_rfl) (by simp) ?_
        refine AllReadyH.cons (o := _) (by (simp only [List.getElem?_toArray]; rfl)) (fun K hK => ?_) ?_
        · skip
          go_simp
          refine (CS.out _ _ _ _ _ _ _ (sl_of_block five_len q0 rfl hz0) (sl_of_block int_len q1 rfl hz1) (sl_of_block int_len q2 rfl hz2) hs).mono ?_
          rintro e wkC2kC1kC0RK ⟨b0, d0, b1, d1, b2, d2, rfl, r0, r1, r2, kk⟩
          replace r0 := r0.low kC1kC0RK.out.2.size
          replace r1 := r1.low kC1kC0RK.out.2.size
          replace r2 := r2.low kC1kC0RK.out.2.size
          have kC2kC1kC0RK := Lib.hid (KeptB.next (Nat.le_refl _) kC1kC0RK.out kk)
          clear kk
          refine hK.out _ _ kC2kC1kC0RK.out (fun hHeld => ?_)
          clear hK K hHeld
          try simp only [Act.put, List.setIfInBounds_toArray, List.set]
          refine wpAnyH_take (i := 5) (oi := _) (v := ?_) (by (simp only [List.getElem?_toArray]; rfl)) (by kernel_rfl) (by kernel_rfl) (by kernel_rfl) (by exact fun _ _ _ h => h) (Or.inl ⟨by rfl, ?_⟩) (by assumption) ?_
          rotate_left
          · intro wS hSw
            go_simp
            all_goals first | with_reducible rfl | rw [if_neg (by omega)]
          simp only [Act.put, List.setIfInBounds_toArray, List.set]
          refine wpAnyH_take (i := 6) (oi := _) (v := ?_) (by (simp only [List.getElem?_toArray]; rfl)) (by kernel_rfl) (by kernel_rfl) (by kernel_rfl) (by exact fun _ _ _ h => h) (Or.inl ⟨by rfl, ?_⟩) (by assumption) ?_
          rotate_left
          · intro wS hSw
            go_simp
            all_goals first | with_reducible rfl | rw [if_neg (by omega)]
          simp only [Act.put, List.setIfInBounds_toArray, List.set]
          refine wpAnyH_take (i := 7) (oi := _) (v := ?_) (by (simp only [List.getElem?_toArray]; rfl)) (by kernel_rfl) (by kernel_rfl) (by kernel_rfl) (by exact fun _ _ _ h => h) (Or.inl ⟨by rfl, ?_⟩) (by assumption) ?_
          rotate_left
          · intro wS hSw
            go_simp
            all_goals first | with_reducible rfl | rw [if_neg (by omega)]
          simp only [Act.put, List.setIfInBounds_toArray, List.set]
          refine wpAnyH_ready (rs := [8]) (by kernel_rfl) (by simp) ?_
          refine AllReadyH.cons (o := _) (by (simp only [List.getElem?_toArray]; rfl)) (fun K hK => ?_) AllReadyH.nil
          refine step_alloc (by rfl) (by rfl) (z := .agg #[.slice none 0 0, .slice none 0 0, .slice none 0 0]) (cs := #[.slice none 0 0, .slice none 0 0, .slice none 0 0]) (by kernel_rfl) rfl ?_
          obtain ⟨wAkC2kC1kC0RK, hw', sw', hv, kw'⟩ := blocks1 wkC2kC1kC0RK (.cells #[.slice none 0 0, .slice none 0 0, .slice none 0 0] 46)
          rw [← hw']
          clear hw' sw'
          have kAkC2kC1kC0RK := Lib.hid (KeptB.next (Nat.le_refl _) kC2kC1kC0RK.out kw')
          have hvx : w1.heap.size ≤ wkC2kC1kC0RK.heap.size := kC2kC1kC0RK.out.2.size
          have hvn0 : ∀ g, rowBlk b0 d0 = some g → g ≠ wkC2kC1kC0RK.heap.size := fun g hg => by have := (r0.blk hg).2; omega
          replace r0 := r0.below kw'
          have hvn1 : ∀ g, rowBlk b1 d1 = some g → g ≠ wkC2kC1kC0RK.heap.size := fun g hg => by have := (r1.blk hg).2; omega
          replace r1 := r1.below kw'
          have hvn2 : ∀ g, rowBlk b2 d2 = some g → g ≠ wkC2kC1kC0RK.heap.size := fun g hg => by have := (r2.blk hg).2; omega
          replace r2 := r2.below kw'
          clear kw'
          refine hK.out _ _ kAkC2kC1kC0RK.out (fun hHeld => ?_)
          clear hK K hHeld
          try simp only [Act.put, List.setIfInBounds_toArray, List.set]
          refine wpAnyH_ready (rs := [9]) (by kernel_rfl) (by simp) ?_
          refine AllReadyH.cons (o := _) (by (simp only [List.getElem?_toArray]; rfl)) (fun K hK => ?_) AllReadyH.nil
          have cv := cell_of_block hv
          have fv := unfrozen_of_block hv
          go_simp
          have kSkAkC2kC1kC0RK := Lib.hid (KeptB.set (p := ⟨wkC2kC1kC0RK.heap.size, 2, none⟩) hvx (.slice b2 y.la.length d2) (KeptB.set (p := ⟨wkC2kC1kC0RK.heap.size, 1, none⟩) hvx (.slice b1 y.fl.length d1) (KeptB.set (p := ⟨wkC2kC1kC0RK.heap.size, 0, none⟩) hvx (.slice b0 y.es.length d0) kAkC2kC1kC0RK.out)))
          replace r0 := ((r0.setNe (p := ⟨wkC2kC1kC0RK.heap.size, 0, none⟩) hvn0 (.slice b0 y.es.length d0)).setNe (p := ⟨wkC2kC1kC0RK.heap.size, 1, none⟩) hvn0 (.slice b1 y.fl.length d1)).setNe (p := ⟨wkC2kC1kC0RK.heap.size, 2, none⟩) hvn0 (.slice b2 y.la.length d2)
          replace r1 := ((r1.setNe (p := ⟨wkC2kC1kC0RK.heap.size, 0, none⟩) hvn1 (.slice b0 y.es.length d0)).setNe (p := ⟨wkC2kC1kC0RK.heap.size, 1, none⟩) hvn1 (.slice b1 y.fl.length d1)).setNe (p := ⟨wkC2kC1kC0RK.heap.size, 2, none⟩) hvn1 (.slice b2 y.la.length d2)
          replace r2 := ((r2.setNe (p := ⟨wkC2kC1kC0RK.heap.size, 0, none⟩) hvn2 (.slice b0 y.es.length d0)).setNe (p := ⟨wkC2kC1kC0RK.heap.size, 1, none⟩) hvn2 (.slice b1 y.fl.length d1)).setNe (p := ⟨wkC2kC1kC0RK.heap.size, 2, none⟩) hvn2 (.slice b2 y.la.length d2)
          replace hv := block_setCell (i := 2) (block_setCell (i := 1) (block_setCell (i := 0) hv (.slice b0 y.es.length d0)) (.slice b1 y.fl.length d1)) (.slice b2 y.la.length d2)
          clear cv fv
          refine hK.out _ _ kSkAkC2kC1kC0RK.out (fun hHeld => ?_)
          clear hK K hHeld
          try simp only [Act.put, List.setIfInBounds_toArray, List.set]
          refine wpAnyH_take (i := 10) (oi := _) (v := ?_) (by (simp only [List.getElem?_toArray]; rfl)) (by kernel_rfl) (by kernel_rfl) (by kernel_rfl) (by exact fun _ _ _ h => h) (Or.inl ⟨by rfl, ?_⟩) (by assumption) ?_
          rotate_left
          · intro wS hSw
            go_simp
            all_goals first | with_reducible rfl | rw [if_neg (by omega)]
          simp only [Act.put, List.setIfInBounds_toArray, List.set]
          refine hfin ⟨(.agg #[.slice (some ⟨gc0, 0, none⟩) z.es.length z.es.length, .slice (some ⟨gc1, 0, none⟩) z.fl.length z.fl.length, .slice (some ⟨gc2, 0, none⟩) z.la.length z.la.length]), undef, undef, b0, b1, b2, d0, d1, d2, wkC2kC1kC0RK.heap.size⟩ _ _ _ (by kernel_rfl) ?_ ⟨kSkAkC2kC1kC0RK.out, hv, hvx, r0, r1, r2, hvn0, hvn1, hvn2⟩
          simp only [List.setIfInBounds_toArray, List.set]
        refine AllReadyH.cons (o := _) (by (simp only [List.getElem?_toArray]; rfl)) (fun K hK => ?_) ?_
        · skip
          refine step_alloc (by rfl) (by rfl) (z := .agg #[.slice none 0 0, .slice none 0 0, .slice none 0 0]) (cs := #[.slice none 0 0, .slice none 0 0, .slice none 0 0]) (by kernel_rfl) rfl ?_
          obtain ⟨wAkC1kC0RK, hw', sw', hv, kw'⟩ := blocks1 wkC1kC0RK (.cells #[.slice none 0 0, .slice none 0 0, .slice none 0 0] 46)
          rw [← hw']
          clear hw' sw'
          have kAkC1kC0RK := Lib.hid (KeptB.next (Nat.le_refl _) kC1kC0RK.out kw')
          have hvx : w1.heap.size ≤ wkC1kC0RK.heap.size := kC1kC0RK.out.2.size
          replace q0 := carryN kw' q0
          replace q1 := carryN kw' q1
          replace q2 := carryN kw' q2
          clear kw'
          refine hK.out _ _ kAkC1kC0RK.out (fun hHeld => ?_)
          clear hK K hHeld
          try simp only [Act.put, List.setIfInBounds_toArray, List.set]
          refine wpAnyH_ready (rs := [4]) (by kernel_rfl) (by simp) ?_
          refine AllReadyH.cons (o := _) (by (simp only [List.getElem?_toArray]; rfl)) (fun K hK => ?_) AllReadyH.nil
          go_simp
          refine (CS.out _ _ _ _ _ _ _ (sl_of_block five_len q0 rfl hz0) (sl_of_block int_len q1 rfl hz1) (sl_of_block int_len q2 rfl hz2) hs).mono ?_
          rintro e wkC2kAkC1kC0RK ⟨b0, d0, b1, d1, b2, d2, rfl, r0, r1, r2, kk⟩
          have hvn0 : ∀ g, rowBlk b0 d0 = some g → g ≠ wkC1kC0RK.heap.size := fun g hg => by have := (r0.blk hg).1; have := lt_of_block hv; omega
          have hvn1 : ∀ g, rowBlk b1 d1 = some g → g ≠ wkC1kC0RK.heap.size := fun g hg => by have := (r1.blk hg).1; have := lt_of_block hv; omega
          have hvn2 : ∀ g, rowBlk b2 d2 = some g → g ≠ wkC1kC0RK.heap.size := fun g hg => by have := (r2.blk hg).1; have := lt_of_block hv; omega
          replace r0 := r0.low kAkC1kC0RK.out.2.size
          replace r1 := r1.low kAkC1kC0RK.out.2.size
          replace r2 := r2.low kAkC1kC0RK.out.2.size
          have kC2kAkC1kC0RK := Lib.hid (KeptB.next (Nat.le_refl _) kAkC1kC0RK.out kk)
          replace hv := carryN kk hv
          clear kk
          refine hK.out _ _ kC2kAkC1kC0RK.out (fun hHeld => ?_)
          clear hK K hHeld
          try simp only [Act.put, List.setIfInBounds_toArray, List.set]
          refine wpAnyH_take (i := 5) (oi := _) (v := ?_) (by (simp only [List.getElem?_toArray]; rfl)) (by kernel_rfl) (by kernel_rfl) (by kernel_rfl) (by exact fun _ _ _ h => h) (Or.inl ⟨by rfl, ?_⟩) (by assumption) ?_
          rotate_left
          · intro wS hSw
            go_simp
            all_goals first | with_reducible rfl | rw [if_neg (by omega)]
          simp only [Act.put, List.setIfInBounds_toArray, List.set]
          refine wpAnyH_take (i := 6) (oi := _) (v := ?_) (by (simp only [List.getElem?_toArray]; rfl)) (by kernel_rfl) (by kernel_rfl) (by kernel_rfl) (by exact fun _ _ _ h => h) (Or.inl ⟨by rfl, ?_⟩) (by assumption) ?_
          rotate_left
          · intro wS hSw
            go_simp
            all_goals first | with_reducible rfl | rw [if_neg (by omega)]
          simp only [Act.put, List.setIfInBounds_toArray, List.set]
          refine wpAnyH_take (i := 7) (oi := _) (v := ?_) (by (simp only [List.getElem?_toArray]; rfl)) (by kernel_rfl) (by kernel_rfl) (by kernel_rfl) (by exact fun _ _ _ h => h) (Or.inl ⟨by rfl, ?_⟩) (by assumption) ?_
          rotate_left
          · intro wS hSw
            go_simp
            all_goals first | with_reducible rfl | rw [if_neg (by omega)]
          simp only [Act.put, List.setIfInBounds_toArray, List.set]
          refine wpAnyH_ready (rs := [9]) (by kernel_rfl) (by simp) ?_
          refine AllReadyH.cons (o := _) (by (simp only [List.getElem?_toArray]; rfl)) (fun K hK => ?_) AllReadyH.nil
          have cv := cell_of_block hv
          have fv := unfrozen_of_block hv
          go_simp
          have kSkC2kAkC1kC0RK := Lib.hid (KeptB.set (p := ⟨wkC1kC0RK.heap.size, 2, none⟩) hvx (.slice b2 y.la.length d2) (KeptB.set (p := ⟨wkC1kC0RK.heap.size, 1, none⟩) hvx (.slice b1 y.fl.length d1) (KeptB.set (p := ⟨wkC1kC0RK.heap.size, 0, none⟩) hvx (.slice b0 y.es.length d0) kC2kAkC1kC0RK.out)))
          replace r0 := ((r0.setNe (p := ⟨wkC1kC0RK.heap.size, 0, none⟩) hvn0 (.slice b0 y.es.length d0)).setNe (p := ⟨wkC1kC0RK.heap.size, 1, none⟩) hvn0 (.slice b1 y.fl.length d1)).setNe (p := ⟨wkC1kC0RK.heap.size, 2, none⟩) hvn0 (.slice b2 y.la.length d2)
          replace r1 := ((r1.setNe (p := ⟨wkC1kC0RK.heap.size, 0, none⟩) hvn1 (.slice b0 y.es.length d0)).setNe (p := ⟨wkC1kC0RK.heap.size, 1, none⟩) hvn1 (.slice b1 y.fl.length d1)).setNe (p := ⟨wkC1kC0RK.heap.size, 2, none⟩) hvn1 (.slice b2 y.la.length d2)
          replace r2 := ((r2.setNe (p := ⟨wkC1kC0RK.heap.size, 0, none⟩) hvn2 (.slice b0 y.es.length d0)).setNe (p := ⟨wkC1kC0RK.heap.size, 1, none⟩) hvn2 (.slice b1 y.fl.length d1)).setNe (p := ⟨wkC1kC0RK.heap.size, 2, none⟩) hvn2 (.slice b2 y.la.length d2)
          replace hv := block_setCell (i := 2) (block_setCell (i := 1) (block_setCell (i := 0) hv (.slice b0 y.es.length d0)) (.slice b1 y.fl.length d1)) (.slice b2 y.la.length d2)
          clear cv fv
          refine hK.out _ _ kSkC2kAkC1kC0RK.out (fun hHeld => ?_)
          clear hK K hHeld
          try simp only [Act.put, List.setIfInBounds_toArray, List.set]
          refine wpAnyH_take (i := 10) (oi := _) (v := ?_) (by (simp only [List.getElem?_toArray]; rfl)) (by kernel_rfl) (by kernel_rfl) (by kernel_rfl) (by exact fun _ _ _ h => h) (Or.inl ⟨by rfl, ?_⟩) (by assumption) ?_
          rotate_left
          · intro wS hSw
            go_simp
            all_goals first | with_reducible rfl | rw [if_neg (by omega)]
          simp only [Act.put, List.setIfInBounds_toArray, List.set]
          refine hfin ⟨(.agg #[.slice (some ⟨gc0, 0, none⟩) z.es.length z.es.length, .slice (some ⟨gc1, 0, none⟩) z.fl.length z.fl.length, .slice (some ⟨gc2, 0, none⟩) z.la.length z.la.length]), undef, undef, b0, b1, b2, d0, d1, d2, wkC1kC0RK.heap.size⟩ _ _ _ (by kernel_rfl) ?_ ⟨kSkC2kAkC1kC0RK.out, hv, hvx, r0, r1, r2, hvn0, hvn1, hvn2⟩
          simp only [List.setIfInBounds_toArray, List.set]
        exact AllReadyH.nil
      refine AllReadyH.cons (o := _) (by (simp only [List.getElem?_toArray]; rfl)) (fun K hK => ?_) ?_
      · skip
        refine step_alloc (by rfl) (by rfl) (z := .agg #[.slice none 0 0, .slice none 0 0, .slice none 0 0]) (cs := #[.slice none 0 0, .slice none 0 0, .slice none 0 0]) (by kernel_rfl) rfl ?_
        obtain ⟨wAkC0RK, hw', sw', hv, kw'⟩ := blocks1 wkC0RK (.cells #[.slice none 0 0, .slice none 0 0, .slice none 0 0] 46)
        rw [← hw']
        clear hw' sw'
        have kAkC0RK := Lib.hid (KeptB.next (Nat.le_refl _) kC0RK.out kw')
        have hvx : w1.heap.size ≤ wkC0RK.heap.size := kC0RK.out.2.size
        replace q0 := carryN kw' q0
        replace q1 := carryN kw' q1
        replace q2 := carryN kw' q2
        clear kw'
        refine hK.out _ _ kAkC0RK.out (fun hHeld => ?_)
        clear hK K hHeld
        try simp only [Act.put, List.setIfInBounds_toArray, List.set]
        refine wpAnyH_ready (rs := [3]) (by kernel_rfl) (by simp) ?_
        refine AllReadyH.cons (o := _) (by (simp only [List.getElem?_toArray]; rfl)) (fun K hK => ?_) AllReadyH.nil
        go_simp
        refine (toReq_c r.c r.n r.o r.x r.y _).mono ?_
        rintro e wkC1kAkC0RK ⟨rfl, kk⟩
        replace q0 := carryN kk q0
        replace q1 := carryN kk q1
        replace q2 := carryN kk q2
        have kC1kAkC0RK := Lib.hid (KeptB.next (Nat.le_refl _) kAkC0RK.out kk)
        replace hv := carryN kk hv
        clear kk
        refine hK.out _ _ kC1kAkC0RK.out (fun hHeld => ?_)
        clear hK K hHeld
        try simp only [Act.put, List.setIfInBounds_toArray, List.set]
        refine wpAnyH_ready (rs := [4]) (by kernel_rfl) (by simp) ?_
        refine AllReadyH.cons (o := _) (by (simp only [List.getElem?_toArray]; rfl)) (fun K hK => ?_) AllReadyH.nil
        go_simp
        refine (CS.out _ _ _ _ _ _ _ (sl_of_block five_len q0 rfl hz0) (sl_of_block int_len q1 rfl hz1) (sl_of_block int_len q2 rfl hz2) hs).mono ?_
        rintro e wkC2kC1kAkC0RK ⟨b0, d0, b1, d1, b2, d2, rfl, r0, r1, r2, kk⟩
        have hvn0 : ∀ g, rowBlk b0 d0 = some g → g ≠ wkC0RK.heap.size := fun g hg => by have := (r0.blk hg).1; have := lt_of_block hv; omega
        have hvn1 : ∀ g, rowBlk b1 d1 = some g → g ≠ wkC0RK.heap.size := fun g hg => by have := (r1.blk hg).1; have := lt_of_block hv; omega
        have hvn2 : ∀ g, rowBlk b2 d2 = some g → g ≠ wkC0RK.heap.size := fun g hg => by have := (r2.blk hg).1; have := lt_of_block hv; omega
        replace r0 := r0.low kC1kAkC0RK.out.2.size
        replace r1 := r1.low kC1kAkC0RK.out.2.size
        replace r2 := r2.low kC1kAkC0RK.out.2.size
        have kC2kC1kAkC0RK := Lib.hid (KeptB.next (Nat.le_refl _) kC1kAkC0RK.out kk)
        replace hv := carryN kk hv
        clear kk
        refine hK.out _ _ kC2kC1kAkC0RK.out (fun hHeld => ?_)
        clear hK K hHeld
        try simp only [Act.put, List.setIfInBounds_toArray, List.set]
        refine wpAnyH_take (i := 5) (oi := _) (v := ?_) (by (simp only [List.getElem?_toArray]; rfl)) (by kernel_rfl) (by kernel_rfl) (by kernel_rfl) (by exact fun _ _ _ h => h) (Or.inl ⟨by rfl, ?_⟩) (by assumption) ?_
        rotate_left
        · intro wS hSw
          go_simp
          all_goals first | with_reducible rfl | rw [if_neg (by omega)]
        simp only [Act.put, List.setIfInBounds_toArray, List.set]
        refine wpAnyH_take (i := 6) (oi := _) (v := ?_) (by (simp only [List.getElem?_toArray]; rfl)) (by kernel_rfl) (by kernel_rfl) (by kernel_rfl) (by exact fun _ _ _ h => h) (Or.inl ⟨by rfl, ?_⟩) (by assumption) ?_
        rotate_left
        · intro wS hSw
          go_simp
          all_goals first | with_reducible rfl | rw [if_neg (by omega)]
        simp only [Act.put, List.setIfInBounds_toArray, List.set]
        refine wpAnyH_take (i := 7) (oi := _) (v := ?_) (by (simp only [List.getElem?_toArray]; rfl)) (by kernel_rfl) (by kernel_rfl) (by kernel_rfl) (by exact fun _ _ _ h => h) (Or.inl ⟨by rfl, ?_⟩) (by assumption) ?_
        rotate_left
        · intro wS hSw
          go_simp
          all_goals first | with_reducible rfl | rw [if_neg (by omega)]
        simp only [Act.put, List.setIfInBounds_toArray, List.set]
        refine wpAnyH_ready (rs := [9]) (by kernel_rfl) (by simp) ?_
        refine AllReadyH.cons (o := _) (by (simp only [List.getElem?_toArray]; rfl)) (fun K hK => ?_) AllReadyH.nil
        have cv := cell_of_block hv
        have fv := unfrozen_of_block hv
        go_simp
        have kSkC2kC1kAkC0RK := Lib.hid (KeptB.set (p := ⟨wkC0RK.heap.size, 2, none⟩) hvx (.slice b2 y.la.length d2) (KeptB.set (p := ⟨wkC0RK.heap.size, 1, none⟩) hvx (.slice b1 y.fl.length d1) (KeptB.set (p := ⟨wkC0RK.heap.size, 0, none⟩) hvx (.slice b0 y.es.length d0) kC2kC1kAkC0RK.out)))
        replace r0 := ((r0.setNe (p := ⟨wkC0RK.heap.size, 0, none⟩) hvn0 (.slice b0 y.es.length d0)).setNe (p := ⟨wkC0RK.heap.size, 1, none⟩) hvn0 (.slice b1 y.fl.length d1)).setNe (p := ⟨wkC0RK.heap.size, 2, none⟩) hvn0 (.slice b2 y.la.length d2)
        replace r1 := ((r1.setNe (p := ⟨wkC0RK.heap.size, 0, none⟩) hvn1 (.slice b0 y.es.length d0)).setNe (p := ⟨wkC0RK.heap.size, 1, none⟩) hvn1 (.slice b1 y.fl.length d1)).setNe (p := ⟨wkC0RK.heap.size, 2, none⟩) hvn1 (.slice b2 y.la.length d2)
        replace r2 := ((r2.setNe (p := ⟨wkC0RK.heap.size, 0, none⟩) hvn2 (.slice b0 y.es.length d0)).setNe (p := ⟨wkC0RK.heap.size, 1, none⟩) hvn2 (.slice b1 y.fl.length d1)).setNe (p := ⟨wkC0RK.heap.size, 2, none⟩) hvn2 (.slice b2 y.la.length d2)
        replace hv := block_setCell (i := 2) (block_setCell (i := 1) (block_setCell (i := 0) hv (.slice b0 y.es.length d0)) (.slice b1 y.fl.length d1)) (.slice b2 y.la.length d2)
        clear cv fv
        refine hK.out _ _ kSkC2kC1kAkC0RK.out (fun hHeld => ?_)
        clear hK K hHeld
        try simp only [Act.put, List.setIfInBounds_toArray, List.set]
        refine wpAnyH_take (i := 10) (oi := _) (v := ?_) (by (simp only [List.getElem?_toArray]; rfl)) (by kernel_rfl) (by kernel_rfl) (by kernel_rfl) (by exact fun _ _ _ h => h) (Or.inl ⟨by rfl, ?_⟩) (by assumption) ?_
        rotate_left
        · intro wS hSw
          go_simp
          all_goals first | with_reducible rfl | rw [if_neg (by omega)]
        simp only [Act.put, List.setIfInBounds_toArray, List.set]
        refine hfin ⟨(.agg #[.slice (some ⟨gc0, 0, none⟩) z.es.length z.es.length, .slice (some ⟨gc1, 0, none⟩) z.fl.length z.fl.length, .slice (some ⟨gc2, 0, none⟩) z.la.length z.la.length]), undef, undef, b0, b1, b2, d0, d1, d2, wkC0RK.heap.size⟩ _ _ _ (by kernel_rfl) ?_ ⟨kSkC2kC1kAkC0RK.out, hv, hvx, r0, r1, r2, hvn0, hvn1, hvn2⟩
        simp only [List.setIfInBounds_toArray, List.set]
      exact AllReadyH.nil
    refine AllReadyH.cons (o := _) (by (simp only [List.getElem?_toArray]; rfl)) (fun K hK => ?_) ?_
    · skip
      refine step_alloc (by rfl) (by rfl) (z := .agg #[.slice none 0 0, .slice none 0 0, .slice none 0 0]) (cs := #[.slice none 0 0, .slice none 0 0, .slice none 0 0]) (by kernel_rfl) rfl ?_
      obtain ⟨wARK, hw', sw', hv, kw'⟩ := blocks1 wd (.cells #[.slice none 0 0, .slice none 0 0, .slice none 0 0] 46)
      rw [← hw']
      clear hw' sw'
      have kARK := Lib.hid (KeptB.next (Nat.le_refl _) RK.out kw')
      have hvx : w1.heap.size ≤ wd.heap.size := RK.out.2.size
      clear kw'
      refine hK.out _ _ kARK.out (fun hHeld => ?_)
      clear hK K hHeld
      try simp only [Act.put, List.setIfInBounds_toArray, List.set]
      refine wpAnyH_ready (rs := [1]) (by kernel_rfl) (by simp) ?_
      refine AllReadyH.cons (o := _) (by (simp only [List.getElem?_toArray]; rfl)) (fun K hK => ?_) AllReadyH.nil
      go_simp
      refine (toGame_b z _ _ _ _ _ _ _ (S0.out.below (below_next KK.out kARK.out.2)) (S1.out.below (below_next KK.out kARK.out.2)) (S2.out.below (below_next KK.out kARK.out.2)) hz0 hz1 hz2).mono ?_
      rintro e wkC0kARK ⟨gc0, gc1, gc2, rfl, q0, q1, q2, hg0, hg1, hg2, kk⟩
      have kC0kARK := Lib.hid (KeptB.next (Nat.le_refl _) kARK.out kk)
      replace hv := carryN kk hv
      clear kk
      refine hK.out _ _ kC0kARK.out (fun hHeld => ?_)
      clear hK K hHeld
      try simp only [Act.put, List.setIfInBounds_toArray, List.set]
      refine wpAnyH_ready (rs := [3]) (by kernel_rfl) (by simp) ?_
      refine AllReadyH.cons (o := _) (by (simp only [List.getElem?_toArray]; rfl)) (fun K hK => ?_) AllReadyH.nil
      go_simp
      refine (toReq_c r.c r.n r.o r.x r.y _).mono ?_
      rintro e wkC1kC0kARK ⟨rfl, kk⟩
      replace q0 := carryN kk q0
      replace q1 := carryN kk q1
      replace q2 := carryN kk q2
      have kC1kC0kARK := Lib.hid (KeptB.next (Nat.le_refl _) kC0kARK.out kk)
      replace hv := carryN kk hv
      clear kk
      refine hK.out _ _ kC1kC0kARK.out (fun hHeld => ?_)
      clear hK K hHeld
      try simp only [Act.put, List.setIfInBounds_toArray, List.set]
      refine wpAnyH_ready (rs := [4]) (by kernel_rfl) (by simp) ?_
      refine AllReadyH.cons (o := _) (by (simp only [List.getElem?_toArray]; rfl)) (fun K hK => ?_) AllReadyH.nil
      go_simp
      refine (CS.out _ _ _ _ _ _ _ (sl_of_block five_len q0 rfl hz0) (sl_of_block int_len q1 rfl hz1) (sl_of_block int_len q2 rfl hz2) hs).mono ?_
      rintro e wkC2kC1kC0kARK ⟨b0, d0, b1, d1, b2, d2, rfl, r0, r1, r2, kk⟩
      have hvn0 : ∀ g, rowBlk b0 d0 = some g → g ≠ wd.heap.size := fun g hg => by have := (r0.blk hg).1; have := lt_of_block hv; omega
      have hvn1 : ∀ g, rowBlk b1 d1 = some g → g ≠ wd.heap.size := fun g hg => by have := (r1.blk hg).1; have := lt_of_block hv; omega
      have hvn2 : ∀ g, rowBlk b2 d2 = some g → g ≠ wd.heap.size := fun g hg => by have := (r2.blk hg).1; have := lt_of_block hv; omega
      replace r0 := r0.low kC1kC0kARK.out.2.size
      replace r1 := r1.low kC1kC0kARK.out.2.size
      replace r2 := r2.low kC1kC0kARK.out.2.size
      have kC2kC1kC0kARK := Lib.hid (KeptB.next (Nat.le_refl _) kC1kC0kARK.out kk)
      replace hv := carryN kk hv
      clear kk
      refine hK.out _ _ kC2kC1kC0kARK.out (fun hHeld => ?_)
      clear hK K hHeld
      try simp only [Act.put, List.setIfInBounds_toArray, List.set]
      refine wpAnyH_take (i := 5) (oi := _) (v := ?_) (by (simp only [List.getElem?_toArray]; rfl)) (by kernel_rfl) (by kernel_rfl) (by kernel_rfl) (by exact fun _ _ _ h => h) (Or.inl ⟨by rfl, ?_⟩) (by assumption) ?_
      rotate_left
      · intro wS hSw
        go_simp
        all_goals first | with_reducible rfl | rw [if_neg (by omega)]
      simp only [Act.put, List.setIfInBounds_toArray, List.set]
      refine wpAnyH_take (i := 6) (oi := _) (v := ?_) (by (simp only [List.getElem?_toArray]; rfl)) (by kernel_rfl) (by kernel_rfl) (by kernel_rfl) (by exact fun _ _ _ h => h) (Or.inl ⟨by rfl, ?_⟩) (by assumption) ?_
      rotate_left
      · intro wS hSw
        go_simp
        all_goals first | with_reducible rfl | rw [if_neg (by omega)]
      simp only [Act.put, List.setIfInBounds_toArray, List.set]
      refine wpAnyH_take (i := 7) (oi := _) (v := ?_) (by (simp only [List.getElem?_toArray]; rfl)) (by kernel_rfl) (by kernel_rfl) (by kernel_rfl) (by exact fun _ _ _ h => h) (Or.inl ⟨by rfl, ?_⟩) (by assumption) ?_
      rotate_left
      · intro wS hSw
        go_simp
        all_goals first | with_reducible rfl | rw [if_neg (by omega)]
      simp only [Act.put, List.setIfInBounds_toArray, List.set]
      refine wpAnyH_ready (rs := [9]) (by kernel_rfl) (by simp) ?_
      refine AllReadyH.cons (o := _) (by (simp only [List.getElem?_toArray]; rfl)) (fun K hK => ?_) AllReadyH.nil
      have cv := cell_of_block hv
      have fv := unfrozen_of_block hv
      go_simp
      have kSkC2kC1kC0kARK := Lib.hid (KeptB.set (p := ⟨wd.heap.size, 2, none⟩) hvx (.slice b2 y.la.length d2) (KeptB.set (p := ⟨wd.heap.size, 1, none⟩) hvx (.slice b1 y.fl.length d1) (KeptB.set (p := ⟨wd.heap.size, 0, none⟩) hvx (.slice b0 y.es.length d0) kC2kC1kC0kARK.out)))
      replace r0 := ((r0.setNe (p := ⟨wd.heap.size, 0, none⟩) hvn0 (.slice b0 y.es.length d0)).setNe (p := ⟨wd.heap.size, 1, none⟩) hvn0 (.slice b1 y.fl.length d1)).setNe (p := ⟨wd.heap.size, 2, none⟩) hvn0 (.slice b2 y.la.length d2)
      replace r1 := ((r1.setNe (p := ⟨wd.heap.size, 0, none⟩) hvn1 (.slice b0 y.es.length d0)).setNe (p := ⟨wd.heap.size, 1, none⟩) hvn1 (.slice b1 y.fl.length d1)).setNe (p := ⟨wd.heap.size, 2, none⟩) hvn1 (.slice b2 y.la.length d2)
      replace r2 := ((r2.setNe (p := ⟨wd.heap.size, 0, none⟩) hvn2 (.slice b0 y.es.length d0)).setNe (p := ⟨wd.heap.size, 1, none⟩) hvn2 (.slice b1 y.fl.length d1)).setNe (p := ⟨wd.heap.size, 2, none⟩) hvn2 (.slice b2 y.la.length d2)
      replace hv := block_setCell (i := 2) (block_setCell (i := 1) (block_setCell (i := 0) hv (.slice b0 y.es.length d0)) (.slice b1 y.fl.length d1)) (.slice b2 y.la.length d2)
      clear cv fv
      refine hK.out _ _ kSkC2kC1kC0kARK.out (fun hHeld => ?_)
      clear hK K hHeld
      try simp only [Act.put, List.setIfInBounds_toArray, List.set]
      refine wpAnyH_take (i := 10) (oi := _) (v := ?_) (by (simp only [List.getElem?_toArray]; rfl)) (by kernel_rfl) (by kernel_rfl) (by kernel_rfl) (by exact fun _ _ _ h => h) (Or.inl ⟨by rfl, ?_⟩) (by assumption) ?_
      rotate_left
      · intro wS hSw
        go_simp
        all_goals first | with_reducible rfl | rw [if_neg (by omega)]
      simp only [Act.put, List.setIfInBounds_toArray, List.set]
      refine hfin ⟨(.agg #[.slice (some ⟨gc0, 0, none⟩) z.es.length z.es.length, .slice (some ⟨gc1, 0, none⟩) z.fl.length z.fl.length, .slice (some ⟨gc2, 0, none⟩) z.la.length z.la.length]), undef, undef, b0, b1, b2, d0, d1, d2, wd.heap.size⟩ _ _ _ (by kernel_rfl) ?_ ⟨kSkC2kC1kC0kARK.out, hv, hvx, r0, r1, r2, hvn0, hvn1, hvn2⟩
      simp only [List.setIfInBounds_toArray, List.set]
    exact AllReadyH.nil
  rintro ⟨Qv0, Qv1, Qv2, Qb0, Qb1, Qb2, Qd0, Qd1, Qd2, Qx⟩ w5 ⟨k9, QB, hxQ, Q0, Q1, Q2, QN0, QN1, QN2⟩
  simp only at k9 QB hxQ Q0 Q1 Q2 QN0 QN1 QN2 ⊢
  simp only [List.setIfInBounds_toArray, List.set]
  refine wpAnyH_done (by kernel_rfl) ?_ _
  clear caW laW cbW lbW
  replace aW := Lib.hid (carryN k9.2 aW.out)
  replace bW := Lib.hid (carryN k9.2 bW.out)
  replace KK := Lib.hid (below_next KK.out k9.2)
  clear k9
  replace QB := Lib.hid QB
  replace Q0 := Lib.hid Q0
  replace Q1 := Lib.hid Q1
  replace Q2 := Lib.hid Q2
  replace QN0 := Lib.hid QN0
  replace QN1 := Lib.hid QN1
  replace QN2 := Lib.hid QN2
  have HQ0 := Lib.hid (fun g (hg : rowBlk Qb0 Qd0 = some g) => (Q0.out.blk hg).2)
  have HQ1 := Lib.hid (fun g (hg : rowBlk Qb1 Qd1 = some g) => (Q1.out.blk hg).2)
  have HQ2 := Lib.hid (fun g (hg : rowBlk Qb2 Qd2 = some g) => (Q2.out.blk hg).2)
  have caW := cell_of_block aW.out
  have laW := lt_of_block aW.out
  have cbW := cell_of_block bW.out
  have lbW := lt_of_block bW.out
  have cQB := cell_of_block QB.out
  have lQB := lt_of_block QB.out
  have hK5 := Lib.hid KK.out.size
  have daW := Lib.hid laW
  have dbW := Lib.hid lbW
  have dQB := Lib.hid lQB
  go_wp2_with fail
  refine (toGame_b z _ _ _ _ _ _ _ (S0.out.below KK.out) (S1.out.below KK.out) (S2.out.below KK.out) hz0 hz1 hz2).mono ?_
  rintro e w6 ⟨gx0, gx1, gx2, rfl, q0, q1, q2, hg0, hg1, hg2, kk⟩
  clear caW laW cbW lbW cQB lQB
  replace aW := Lib.hid (carryN kk aW.out)
  replace bW := Lib.hid (carryN kk bW.out)
  replace QB := Lib.hid (carryN kk QB.out)
  replace Q0 := Lib.hid (Q0.out.below kk)
  replace Q1 := Lib.hid (Q1.out.below kk)
  replace Q2 := Lib.hid (Q2.out.below kk)
  replace KK := Lib.hid (below_next KK.out kk)
  clear kk
  have X0 := Lib.hid (Row.of_block (B := w5.heap.size) five_len q0 (by omega) (by simp only [maxLen]; omega))
  have X1 := Lib.hid (Row.of_block (B := w5.heap.size) int_len q1 (by omega) (by simp only [maxLen]; omega))
  have X2 := Lib.hid (Row.of_block (B := w5.heap.size) int_len q2 (by omega) (by simp only [maxLen]; omega))
  have hgx := lt_of_block q2
  clear q0 q1 q2
  have caW := cell_of_block aW.out
  have laW := lt_of_block aW.out
  have cbW := cell_of_block bW.out
  have lbW := lt_of_block bW.out
  have cQB := cell_of_block QB.out
  have lQB := lt_of_block QB.out
  go_wp2_with fail
  obtain ⟨w7, hw7, sw7, XB, k7⟩ := blocks1 w6 (.cells #[.slice (some ⟨gx0, 0, none⟩) z.es.length z.es.length, .slice (some ⟨gx1, 0, none⟩) z.fl.length z.fl.length, .slice (some ⟨gx2, 0, none⟩) z.la.length z.la.length] 46)
  rw [← hw7]
  clear hw7
  clear caW laW cbW lbW cQB lQB
  replace aW := Lib.hid (carryN k7 aW.out)
  replace bW := Lib.hid (carryN k7 bW.out)
  replace QB := Lib.hid (carryN k7 QB.out)
  replace Q0 := Lib.hid (Q0.out.below k7)
  replace Q1 := Lib.hid (Q1.out.below k7)
  replace Q2 := Lib.hid (Q2.out.below k7)
  replace X0 := Lib.hid (X0.out.below k7)
  replace X1 := Lib.hid (X1.out.below k7)
  replace X2 := Lib.hid (X2.out.below k7)
  replace KK := Lib.hid (below_next KK.out k7)
  clear k7
  replace XB := Lib.hid XB
  have hgx7 : gx2 < w7.heap.size := by omega
  clear sw7
  have caW := cell_of_block aW.out
  have laW := lt_of_block aW.out
  have cbW := cell_of_block bW.out
  have lbW := lt_of_block bW.out
  have cQB := cell_of_block QB.out
  have lQB := lt_of_block QB.out
  have cXB := cell_of_block XB.out
  have lXB := lt_of_block XB.out
  have baW := Lib.hid laW
  have bbW := Lib.hid lbW
  have bQB := Lib.hid lQB
  have bXB := Lib.hid lXB
  have hKK := Lib.hid KK.out.size
  refine wp_region_held_drew (S := fun w' => ((∀ b o, b < w7.heap.size → (w').cell? ⟨b, o, none⟩ = (w7).cell? ⟨b, o, none⟩) ∧ Below (w7.heap.size) (w7) (w'))) (by kernel_rfl) (KeptB.drew (KeptB.refl _ _)) (fun hHeld => ?_)
  refine introFin2 (X := Xs) 0 #[true, true, true, true, true, true, true, true, true, true] (fun x T => (((((((((T).setIfInBounds 32 (.agg #[.slice (some ⟨gx0, 0, none⟩) z.es.length z.es.length, .slice (some ⟨gx1, 0, none⟩) z.fl.length z.fl.length, .slice (some ⟨gx2, 0, none⟩) z.la.length z.la.length])).setIfInBounds 33 (.agg #[.int .i64 r.c, .int .i64 r.n, .int .i64 r.o, .int .i64 r.x, .int .i64 r.y])).setIfInBounds 34 (.agg #[.int .i64 r.c, .int .i64 r.n, .int .i64 r.o, .int .i64 r.x, .int .i64 r.y])).setIfInBounds 35 (.tuple #[.agg #[.slice x.a0 y.es.length y.es.length, .slice x.a1 y.fl.length y.fl.length, .slice x.a2 y.la.length y.la.length], .int .i64 b])).setIfInBounds 31 (.tuple #[.agg #[.slice x.a0 y.es.length y.es.length, .slice x.a1 y.fl.length y.fl.length, .slice x.a2 y.la.length y.la.length], .int .i64 b])).setIfInBounds 36 (.agg #[.slice x.a0 y.es.length y.es.length, .slice x.a1 y.fl.length y.fl.length, .slice x.a2 y.la.length y.la.length])).setIfInBounds 37 (.int .i64 b)).setIfInBounds 10 (.int .i64 b)).setIfInBounds 9 (.pointer (some ⟨x.x, 0, none⟩))) (fun x w' => (((∀ b o, b < w7.heap.size → (w').cell? ⟨b, o, none⟩ = (w7).cell? ⟨b, o, none⟩) ∧ Below (w7.heap.size) (w7) (w'))) ∧ w'.heap[x.x]? = some (.cells #[.slice x.a0 y.es.length y.es.length, .slice x.a1 y.fl.length y.fl.length, .slice x.a2 y.la.length y.la.length] 46 (0, 0)) ∧ w7.heap.size ≤ x.x ∧ Row w' w7.heap.size 92 x.a0 y.es.length 5 Rq.cs y.es ∧ Row w' w7.heap.size 3 x.a1 y.fl.length 1 intR y.fl ∧ Row w' w7.heap.size 3 x.a2 y.la.length 1 intR y.la ∧ (∀ g, rowBlk x.a0 y.es.length = some g → g ≠ x.x) ∧ (∀ g, rowBlk x.a1 y.fl.length = some g → g ≠ x.x) ∧ (∀ g, rowBlk x.a2 y.la.length = some g → g ≠ x.x) ∧ (∀ g, rowBlk x.a0 y.es.length = some g → rowBlk x.a1 y.fl.length ≠ some g) ∧ (∀ g, rowBlk x.a0 y.es.length = some g → rowBlk x.a2 y.la.length ≠ some g) ∧ (∀ g, rowBlk x.a1 y.fl.length = some g → rowBlk x.a2 y.la.length ≠ some g)) ?_ (fun hfin => ?_)
  rotate_left
  · obtain ⟨wd, hwd, kwd⟩ : ∃ wd, wd = w7.drew ∧ Below w7.heap.size w7 wd := ⟨_, rfl, Below.drew (Below.refl _ _)⟩
    rw [← hwd] at hHeld ⊢
    clear hwd
    have RK := Lib.hid (KeptB.of kwd)
    clear kwd
    refine wpAnyH_take (i := 0) (oi := _) (v := ?_) (by (simp only [List.getElem?_toArray]; rfl)) (by kernel_rfl) (by kernel_rfl) (by kernel_rfl) (by exact fun _ _ _ h => h) (Or.inl ⟨by rfl, ?_⟩) (by assumption) ?_
    rotate_left
    · intro wS hSw
      go_simp
      all_goals first | with_reducible rfl | rw [if_neg (by omega)]
    simp only [Act.put, List.setIfInBounds_toArray, List.set]
    refine wpAnyH_take (i := 1) (oi := _) (v := ?_) (by (simp only [List.getElem?_toArray]; rfl)) (by kernel_rfl) (by kernel_rfl) (by kernel_rfl) (by exact fun _ _ _ h => h) (Or.inl ⟨by rfl, ?_⟩) (by assumption) ?_
    rotate_left
    · intro wS hSw
      go_simp
      all_goals first | with_reducible rfl | rw [if_neg (by omega)]
    simp only [Act.put, List.setIfInBounds_toArray, List.set]
    refine wpAnyH_ready (rs := [2, 7]) (by kernel_rfl) (by simp) ?_
    refine AllReadyH.cons (o := _) (by (simp only [List.getElem?_toArray]; rfl)) (fun K hK => ?_) ?_
    · skip
      go_simp
      refine (toReq_c r.c r.n r.o r.x r.y _).mono ?_
      rintro e wkC1RK ⟨rfl, kk⟩
      have kC1RK := Lib.hid (KeptB.next (Nat.le_refl _) RK.out kk)
      clear kk
      refine hK.out _ _ kC1RK.out (fun hHeld => ?_)
      clear hK K hHeld
      try simp only [Act.put, List.setIfInBounds_toArray, List.set]
      refine wpAnyH_ready (rs := [3, 7]) (by kernel_rfl) (by simp) ?_
      refine AllReadyH.cons (o := _) (by (simp only [List.getElem?_toArray]; rfl)) (fun K hK => ?_) ?_
      · skip
        go_simp
        refine (CI.out _ _ _ _ _ _ _ ((X0.out.sl five_len).below kC1RK.out.2) ((X1.out.sl int_len).below kC1RK.out.2) ((X2.out.sl int_len).below kC1RK.out.2) hs).mono ?_
        rintro e wkC2kC1RK ⟨b0, b1, b2, rfl, r0, r1, r2, p01, p02, p12, kk⟩
        replace r0 := r0.low kC1RK.out.2.size
        replace r1 := r1.low kC1RK.out.2.size
        replace r2 := r2.low kC1RK.out.2.size
        have kC2kC1RK := Lib.hid (KeptB.next (Nat.le_refl _) kC1RK.out kk)
        clear kk
        refine hK.out _ _ kC2kC1RK.out (fun hHeld => ?_)
        clear hK K hHeld
        try simp only [Act.put, List.setIfInBounds_toArray, List.set]
        refine wpAnyH_take (i := 4) (oi := _) (v := ?_) (by (simp only [List.getElem?_toArray]; rfl)) (by kernel_rfl) (by kernel_rfl) (by kernel_rfl) (by exact fun _ _ _ h => h) (Or.inl ⟨by rfl, ?_⟩) (by assumption) ?_
        rotate_left
        · intro wS hSw
          go_simp
          all_goals first | with_reducible rfl | rw [if_neg (by omega)]
        simp only [Act.put, List.setIfInBounds_toArray, List.set]
        refine wpAnyH_take (i := 5) (oi := _) (v := ?_) (by (simp only [List.getElem?_toArray]; rfl)) (by kernel_rfl) (by kernel_rfl) (by kernel_rfl) (by exact fun _ _ _ h => h) (Or.inl ⟨by rfl, ?_⟩) (by assumption) ?_
        rotate_left
        · intro wS hSw
          go_simp
          all_goals first | with_reducible rfl | rw [if_neg (by omega)]
        simp only [Act.put, List.setIfInBounds_toArray, List.set]
        refine wpAnyH_take (i := 6) (oi := _) (v := ?_) (by (simp only [List.getElem?_toArray]; rfl)) (by kernel_rfl) (by kernel_rfl) (by kernel_rfl) (by exact fun _ _ _ h => h) (Or.inl ⟨by rfl, ?_⟩) (by assumption) ?_
        rotate_left
        · intro wS hSw
          go_simp
          all_goals first | with_reducible rfl | rw [if_neg (by omega)]
        simp only [Act.put, List.setIfInBounds_toArray, List.set]
        refine wpAnyH_ready (rs := [7]) (by kernel_rfl) (by simp) ?_
        refine AllReadyH.cons (o := _) (by (simp only [List.getElem?_toArray]; rfl)) (fun K hK => ?_) AllReadyH.nil
        refine step_alloc (by rfl) (by rfl) (z := .agg #[.slice none 0 0, .slice none 0 0, .slice none 0 0]) (cs := #[.slice none 0 0, .slice none 0 0, .slice none 0 0]) (by kernel_rfl) rfl ?_
        obtain ⟨wAkC2kC1RK, hw', sw', hv, kw'⟩ := blocks1 wkC2kC1RK (.cells #[.slice none 0 0, .slice none 0 0, .slice none 0 0] 46)
        rw [← hw']
        clear hw' sw'
        have kAkC2kC1RK := Lib.hid (KeptB.next (Nat.le_refl _) kC2kC1RK.out kw')
        have hvx : w7.heap.size ≤ wkC2kC1RK.heap.size := kC2kC1RK.out.2.size
        have hvn0 : ∀ g, rowBlk b0 y.es.length = some g → g ≠ wkC2kC1RK.heap.size := fun g hg => by have := (r0.blk hg).2; omega
        replace r0 := r0.below kw'
        have hvn1 : ∀ g, rowBlk b1 y.fl.length = some g → g ≠ wkC2kC1RK.heap.size := fun g hg => by have := (r1.blk hg).2; omega
        replace r1 := r1.below kw'
        have hvn2 : ∀ g, rowBlk b2 y.la.length = some g → g ≠ wkC2kC1RK.heap.size := fun g hg => by have := (r2.blk hg).2; omega
        replace r2 := r2.below kw'
        clear kw'
        refine hK.out _ _ kAkC2kC1RK.out (fun hHeld => ?_)
        clear hK K hHeld
        try simp only [Act.put, List.setIfInBounds_toArray, List.set]
        refine wpAnyH_ready (rs := [8]) (by kernel_rfl) (by simp) ?_
        refine AllReadyH.cons (o := _) (by (simp only [List.getElem?_toArray]; rfl)) (fun K hK => ?_) AllReadyH.nil
        have cv := cell_of_block hv
        have fv := unfrozen_of_block hv
        go_simp
        have kSkAkC2kC1RK := Lib.hid (KeptB.set (p := ⟨wkC2kC1RK.heap.size, 2, none⟩) hvx (.slice b2 y.la.length y.la.length) (KeptB.set (p := ⟨wkC2kC1RK.heap.size, 1, none⟩) hvx (.slice b1 y.fl.length y.fl.length) (KeptB.set (p := ⟨wkC2kC1RK.heap.size, 0, none⟩) hvx (.slice b0 y.es.length y.es.length) kAkC2kC1RK.out)))
        replace r0 := ((r0.setNe (p := ⟨wkC2kC1RK.heap.size, 0, none⟩) hvn0 (.slice b0 y.es.length y.es.length)).setNe (p := ⟨wkC2kC1RK.heap.size, 1, none⟩) hvn0 (.slice b1 y.fl.length y.fl.length)).setNe (p := ⟨wkC2kC1RK.heap.size, 2, none⟩) hvn0 (.slice b2 y.la.length y.la.length)
        replace r1 := ((r1.setNe (p := ⟨wkC2kC1RK.heap.size, 0, none⟩) hvn1 (.slice b0 y.es.length y.es.length)).setNe (p := ⟨wkC2kC1RK.heap.size, 1, none⟩) hvn1 (.slice b1 y.fl.length y.fl.length)).setNe (p := ⟨wkC2kC1RK.heap.size, 2, none⟩) hvn1 (.slice b2 y.la.length y.la.length)
        replace r2 := ((r2.setNe (p := ⟨wkC2kC1RK.heap.size, 0, none⟩) hvn2 (.slice b0 y.es.length y.es.length)).setNe (p := ⟨wkC2kC1RK.heap.size, 1, none⟩) hvn2 (.slice b1 y.fl.length y.fl.length)).setNe (p := ⟨wkC2kC1RK.heap.size, 2, none⟩) hvn2 (.slice b2 y.la.length y.la.length)
        replace hv := block_setCell (i := 2) (block_setCell (i := 1) (block_setCell (i := 0) hv (.slice b0 y.es.length y.es.length)) (.slice b1 y.fl.length y.fl.length)) (.slice b2 y.la.length y.la.length)
        clear cv fv
        refine hK.out _ _ kSkAkC2kC1RK.out (fun hHeld => ?_)
        clear hK K hHeld
        try simp only [Act.put, List.setIfInBounds_toArray, List.set]
        refine wpAnyH_take (i := 9) (oi := _) (v := ?_) (by (simp only [List.getElem?_toArray]; rfl)) (by kernel_rfl) (by kernel_rfl) (by kernel_rfl) (by exact fun _ _ _ h => h) (Or.inl ⟨by rfl, ?_⟩) (by assumption) ?_
        rotate_left
        · intro wS hSw
          go_simp
          all_goals first | with_reducible rfl | rw [if_neg (by omega)]
        simp only [Act.put, List.setIfInBounds_toArray, List.set]
        refine hfin ⟨undef, undef, undef, b0, b1, b2, 0, 0, 0, wkC2kC1RK.heap.size⟩ _ _ _ (by kernel_rfl) ?_ ⟨kSkAkC2kC1RK.out, hv, hvx, r0, r1, r2, hvn0, hvn1, hvn2, p01, p02, p12⟩
        simp only [List.setIfInBounds_toArray, List.set]
      refine AllReadyH.cons (o := _) (by (simp only [List.getElem?_toArray]; rfl)) (fun K hK => ?_) ?_
      · skip
        refine step_alloc (by rfl) (by rfl) (z := .agg #[.slice none 0 0, .slice none 0 0, .slice none 0 0]) (cs := #[.slice none 0 0, .slice none 0 0, .slice none 0 0]) (by kernel_rfl) rfl ?_
        obtain ⟨wAkC1RK, hw', sw', hv, kw'⟩ := blocks1 wkC1RK (.cells #[.slice none 0 0, .slice none 0 0, .slice none 0 0] 46)
        rw [← hw']
        clear hw' sw'
        have kAkC1RK := Lib.hid (KeptB.next (Nat.le_refl _) kC1RK.out kw')
        have hvx : w7.heap.size ≤ wkC1RK.heap.size := kC1RK.out.2.size
        clear kw'
        refine hK.out _ _ kAkC1RK.out (fun hHeld => ?_)
        clear hK K hHeld
        try simp only [Act.put, List.setIfInBounds_toArray, List.set]
        refine wpAnyH_ready (rs := [3]) (by kernel_rfl) (by simp) ?_
        refine AllReadyH.cons (o := _) (by (simp only [List.getElem?_toArray]; rfl)) (fun K hK => ?_) AllReadyH.nil
        go_simp
        refine (CI.out _ _ _ _ _ _ _ ((X0.out.sl five_len).below kAkC1RK.out.2) ((X1.out.sl int_len).below kAkC1RK.out.2) ((X2.out.sl int_len).below kAkC1RK.out.2) hs).mono ?_
        rintro e wkC2kAkC1RK ⟨b0, b1, b2, rfl, r0, r1, r2, p01, p02, p12, kk⟩
        have hvn0 : ∀ g, rowBlk b0 y.es.length = some g → g ≠ wkC1RK.heap.size := fun g hg => by have := (r0.blk hg).1; have := lt_of_block hv; omega
        have hvn1 : ∀ g, rowBlk b1 y.fl.length = some g → g ≠ wkC1RK.heap.size := fun g hg => by have := (r1.blk hg).1; have := lt_of_block hv; omega
        have hvn2 : ∀ g, rowBlk b2 y.la.length = some g → g ≠ wkC1RK.heap.size := fun g hg => by have := (r2.blk hg).1; have := lt_of_block hv; omega
        replace r0 := r0.low kAkC1RK.out.2.size
        replace r1 := r1.low kAkC1RK.out.2.size
        replace r2 := r2.low kAkC1RK.out.2.size
        have kC2kAkC1RK := Lib.hid (KeptB.next (Nat.le_refl _) kAkC1RK.out kk)
        replace hv := carryN kk hv
        clear kk
        refine hK.out _ _ kC2kAkC1RK.out (fun hHeld => ?_)
        clear hK K hHeld
        try simp only [Act.put, List.setIfInBounds_toArray, List.set]
        refine wpAnyH_take (i := 4) (oi := _) (v := ?_) (by (simp only [List.getElem?_toArray]; rfl)) (by kernel_rfl) (by kernel_rfl) (by kernel_rfl) (by exact fun _ _ _ h => h) (Or.inl ⟨by rfl, ?_⟩) (by assumption) ?_
        rotate_left
        · intro wS hSw
          go_simp
          all_goals first | with_reducible rfl | rw [if_neg (by omega)]
        simp only [Act.put, List.setIfInBounds_toArray, List.set]
        refine wpAnyH_take (i := 5) (oi := _) (v := ?_) (by (simp only [List.getElem?_toArray]; rfl)) (by kernel_rfl) (by kernel_rfl) (by kernel_rfl) (by exact fun _ _ _ h => h) (Or.inl ⟨by rfl, ?_⟩) (by assumption) ?_
        rotate_left
        · intro wS hSw
          go_simp
          all_goals first | with_reducible rfl | rw [if_neg (by omega)]
        simp only [Act.put, List.setIfInBounds_toArray, List.set]
        refine wpAnyH_take (i := 6) (oi := _) (v := ?_) (by (simp only [List.getElem?_toArray]; rfl)) (by kernel_rfl) (by kernel_rfl) (by kernel_rfl) (by exact fun _ _ _ h => h) (Or.inl ⟨by rfl, ?_⟩) (by assumption) ?_
        rotate_left
        · intro wS hSw
          go_simp
          all_goals first | with_reducible rfl | rw [if_neg (by omega)]
        simp only [Act.put, List.setIfInBounds_toArray, List.set]
        refine wpAnyH_ready (rs := [8]) (by kernel_rfl) (by simp) ?_
        refine AllReadyH.cons (o := _) (by (simp only [List.getElem?_toArray]; rfl)) (fun K hK => ?_) AllReadyH.nil
        have cv := cell_of_block hv
        have fv := unfrozen_of_block hv
        go_simp
        have kSkC2kAkC1RK := Lib.hid (KeptB.set (p := ⟨wkC1RK.heap.size, 2, none⟩) hvx (.slice b2 y.la.length y.la.length) (KeptB.set (p := ⟨wkC1RK.heap.size, 1, none⟩) hvx (.slice b1 y.fl.length y.fl.length) (KeptB.set (p := ⟨wkC1RK.heap.size, 0, none⟩) hvx (.slice b0 y.es.length y.es.length) kC2kAkC1RK.out)))
        replace r0 := ((r0.setNe (p := ⟨wkC1RK.heap.size, 0, none⟩) hvn0 (.slice b0 y.es.length y.es.length)).setNe (p := ⟨wkC1RK.heap.size, 1, none⟩) hvn0 (.slice b1 y.fl.length y.fl.length)).setNe (p := ⟨wkC1RK.heap.size, 2, none⟩) hvn0 (.slice b2 y.la.length y.la.length)
        replace r1 := ((r1.setNe (p := ⟨wkC1RK.heap.size, 0, none⟩) hvn1 (.slice b0 y.es.length y.es.length)).setNe (p := ⟨wkC1RK.heap.size, 1, none⟩) hvn1 (.slice b1 y.fl.length y.fl.length)).setNe (p := ⟨wkC1RK.heap.size, 2, none⟩) hvn1 (.slice b2 y.la.length y.la.length)
        replace r2 := ((r2.setNe (p := ⟨wkC1RK.heap.size, 0, none⟩) hvn2 (.slice b0 y.es.length y.es.length)).setNe (p := ⟨wkC1RK.heap.size, 1, none⟩) hvn2 (.slice b1 y.fl.length y.fl.length)).setNe (p := ⟨wkC1RK.heap.size, 2, none⟩) hvn2 (.slice b2 y.la.length y.la.length)
        replace hv := block_setCell (i := 2) (block_setCell (i := 1) (block_setCell (i := 0) hv (.slice b0 y.es.length y.es.length)) (.slice b1 y.fl.length y.fl.length)) (.slice b2 y.la.length y.la.length)
        clear cv fv
        refine hK.out _ _ kSkC2kAkC1RK.out (fun hHeld => ?_)
        clear hK K hHeld
        try simp only [Act.put, List.setIfInBounds_toArray, List.set]
        refine wpAnyH_take (i := 9) (oi := _) (v := ?_) (by (simp only [List.getElem?_toArray]; rfl)) (by kernel_rfl) (by kernel_rfl) (by kernel_rfl) (by exact fun _ _ _ h => h) (Or.inl ⟨by rfl, ?_⟩) (by assumption) ?_
        rotate_left
        · intro wS hSw
          go_simp
          all_goals first | with_reducible rfl | rw [if_neg (by omega)]
        simp only [Act.put, List.setIfInBounds_toArray, List.set]
        refine hfin ⟨undef, undef, undef, b0, b1, b2, 0, 0, 0, wkC1RK.heap.size⟩ _ _ _ (by kernel_rfl) ?_ ⟨kSkC2kAkC1RK.out, hv, hvx, r0, r1, r2, hvn0, hvn1, hvn2, p01, p02, p12⟩
        simp only [List.setIfInBounds_toArray, List.set]
      exact AllReadyH.nil
    refine AllReadyH.cons (o := _) (by (simp only [List.getElem?_toArray]; rfl)) (fun K hK => ?_) ?_
    · skip
      refine step_alloc (by rfl) (by rfl) (z := .agg #[.slice none 0 0, .slice none 0 0, .slice none 0 0]) (cs := #[.slice none 0 0, .slice none 0 0, .slice none 0 0]) (by kernel_rfl) rfl ?_
      obtain ⟨wARK, hw', sw', hv, kw'⟩ := blocks1 wd (.cells #[.slice none 0 0, .slice none 0 0, .slice none 0 0] 46)
      rw [← hw']
      clear hw' sw'
      have kARK := Lib.hid (KeptB.next (Nat.le_refl _) RK.out kw')
      have hvx : w7.heap.size ≤ wd.heap.size := RK.out.2.size
      clear kw'
      refine hK.out _ _ kARK.out (fun hHeld => ?_)
      clear hK K hHeld
      try simp only [Act.put, List.setIfInBounds_toArray, List.set]
      refine wpAnyH_ready (rs := [2]) (by kernel_rfl) (by simp) ?_
      refine AllReadyH.cons (o := _) (by (simp only [List.getElem?_toArray]; rfl)) (fun K hK => ?_) AllReadyH.nil
      go_simp
      refine (toReq_c r.c r.n r.o r.x r.y _).mono ?_
      rintro e wkC1kARK ⟨rfl, kk⟩
      have kC1kARK := Lib.hid (KeptB.next (Nat.le_refl _) kARK.out kk)
      replace hv := carryN kk hv
      clear kk
      refine hK.out _ _ kC1kARK.out (fun hHeld => ?_)
      clear hK K hHeld
      try simp only [Act.put, List.setIfInBounds_toArray, List.set]
      refine wpAnyH_ready (rs := [3]) (by kernel_rfl) (by simp) ?_
      refine AllReadyH.cons (o := _) (by (simp only [List.getElem?_toArray]; rfl)) (fun K hK => ?_) AllReadyH.nil
      go_simp
      refine (CI.out _ _ _ _ _ _ _ ((X0.out.sl five_len).below kC1kARK.out.2) ((X1.out.sl int_len).below kC1kARK.out.2) ((X2.out.sl int_len).below kC1kARK.out.2) hs).mono ?_
      rintro e wkC2kC1kARK ⟨b0, b1, b2, rfl, r0, r1, r2, p01, p02, p12, kk⟩
      have hvn0 : ∀ g, rowBlk b0 y.es.length = some g → g ≠ wd.heap.size := fun g hg => by have := (r0.blk hg).1; have := lt_of_block hv; omega
      have hvn1 : ∀ g, rowBlk b1 y.fl.length = some g → g ≠ wd.heap.size := fun g hg => by have := (r1.blk hg).1; have := lt_of_block hv; omega
      have hvn2 : ∀ g, rowBlk b2 y.la.length = some g → g ≠ wd.heap.size := fun g hg => by have := (r2.blk hg).1; have := lt_of_block hv; omega
      replace r0 := r0.low kC1kARK.out.2.size
      replace r1 := r1.low kC1kARK.out.2.size
      replace r2 := r2.low kC1kARK.out.2.size
      have kC2kC1kARK := Lib.hid (KeptB.next (Nat.le_refl _) kC1kARK.out kk)
      replace hv := carryN kk hv
      clear kk
      refine hK.out _ _ kC2kC1kARK.out (fun hHeld => ?_)
      clear hK K hHeld
      try simp only [Act.put, List.setIfInBounds_toArray, List.set]
      refine wpAnyH_take (i := 4) (oi := _) (v := ?_) (by (simp only [List.getElem?_toArray]; rfl)) (by kernel_rfl) (by kernel_rfl) (by kernel_rfl) (by exact fun _ _ _ h => h) (Or.inl ⟨by rfl, ?_⟩) (by assumption) ?_
      rotate_left
      · intro wS hSw
        go_simp
        all_goals first | with_reducible rfl | rw [if_neg (by omega)]
      simp only [Act.put, List.setIfInBounds_toArray, List.set]
      refine wpAnyH_take (i := 5) (oi := _) (v := ?_) (by (simp only [List.getElem?_toArray]; rfl)) (by kernel_rfl) (by kernel_rfl) (by kernel_rfl) (by exact fun _ _ _ h => h) (Or.inl ⟨by rfl, ?_⟩) (by assumption) ?_
      rotate_left
      · intro wS hSw
        go_simp
        all_goals first | with_reducible rfl | rw [if_neg (by omega)]
      simp only [Act.put, List.setIfInBounds_toArray, List.set]
      refine wpAnyH_take (i := 6) (oi := _) (v := ?_) (by (simp only [List.getElem?_toArray]; rfl)) (by kernel_rfl) (by kernel_rfl) (by kernel_rfl) (by exact fun _ _ _ h => h) (Or.inl ⟨by rfl, ?_⟩) (by assumption) ?_
      rotate_left
      · intro wS hSw
        go_simp
        all_goals first | with_reducible rfl | rw [if_neg (by omega)]
      simp only [Act.put, List.setIfInBounds_toArray, List.set]
      refine wpAnyH_ready (rs := [8]) (by kernel_rfl) (by simp) ?_
      refine AllReadyH.cons (o := _) (by (simp only [List.getElem?_toArray]; rfl)) (fun K hK => ?_) AllReadyH.nil
      have cv := cell_of_block hv
      have fv := unfrozen_of_block hv
      go_simp
      have kSkC2kC1kARK := Lib.hid (KeptB.set (p := ⟨wd.heap.size, 2, none⟩) hvx (.slice b2 y.la.length y.la.length) (KeptB.set (p := ⟨wd.heap.size, 1, none⟩) hvx (.slice b1 y.fl.length y.fl.length) (KeptB.set (p := ⟨wd.heap.size, 0, none⟩) hvx (.slice b0 y.es.length y.es.length) kC2kC1kARK.out)))
      replace r0 := ((r0.setNe (p := ⟨wd.heap.size, 0, none⟩) hvn0 (.slice b0 y.es.length y.es.length)).setNe (p := ⟨wd.heap.size, 1, none⟩) hvn0 (.slice b1 y.fl.length y.fl.length)).setNe (p := ⟨wd.heap.size, 2, none⟩) hvn0 (.slice b2 y.la.length y.la.length)
      replace r1 := ((r1.setNe (p := ⟨wd.heap.size, 0, none⟩) hvn1 (.slice b0 y.es.length y.es.length)).setNe (p := ⟨wd.heap.size, 1, none⟩) hvn1 (.slice b1 y.fl.length y.fl.length)).setNe (p := ⟨wd.heap.size, 2, none⟩) hvn1 (.slice b2 y.la.length y.la.length)
      replace r2 := ((r2.setNe (p := ⟨wd.heap.size, 0, none⟩) hvn2 (.slice b0 y.es.length y.es.length)).setNe (p := ⟨wd.heap.size, 1, none⟩) hvn2 (.slice b1 y.fl.length y.fl.length)).setNe (p := ⟨wd.heap.size, 2, none⟩) hvn2 (.slice b2 y.la.length y.la.length)
      replace hv := block_setCell (i := 2) (block_setCell (i := 1) (block_setCell (i := 0) hv (.slice b0 y.es.length y.es.length)) (.slice b1 y.fl.length y.fl.length)) (.slice b2 y.la.length y.la.length)
      clear cv fv
      refine hK.out _ _ kSkC2kC1kARK.out (fun hHeld => ?_)
      clear hK K hHeld
      try simp only [Act.put, List.setIfInBounds_toArray, List.set]
      refine wpAnyH_take (i := 9) (oi := _) (v := ?_) (by (simp only [List.getElem?_toArray]; rfl)) (by kernel_rfl) (by kernel_rfl) (by kernel_rfl) (by exact fun _ _ _ h => h) (Or.inl ⟨by rfl, ?_⟩) (by assumption) ?_
      rotate_left
      · intro wS hSw
        go_simp
        all_goals first | with_reducible rfl | rw [if_neg (by omega)]
      simp only [Act.put, List.setIfInBounds_toArray, List.set]
      refine hfin ⟨undef, undef, undef, b0, b1, b2, 0, 0, 0, wd.heap.size⟩ _ _ _ (by kernel_rfl) ?_ ⟨kSkC2kC1kARK.out, hv, hvx, r0, r1, r2, hvn0, hvn1, hvn2, p01, p02, p12⟩
      simp only [List.setIfInBounds_toArray, List.set]
    exact AllReadyH.nil
  rintro ⟨Pv0, Pv1, Pv2, Pb0, Pb1, Pb2, Pd0, Pd1, Pd2, Px⟩ w9 ⟨k9, PB, hxP, P0, P1, P2, PN0, PN1, PN2, PP01, PP02, PP12⟩
  simp only at k9 PB hxP P0 P1 P2 PN0 PN1 PN2 PP01 PP02 PP12 ⊢
  simp only [List.setIfInBounds_toArray, List.set]
  refine wpAnyH_done (by kernel_rfl) ?_ _
  clear caW laW cbW lbW cQB lQB cXB lXB
  replace aW := Lib.hid (carryN k9.2 aW.out)
  replace bW := Lib.hid (carryN k9.2 bW.out)
  replace QB := Lib.hid (carryN k9.2 QB.out)
  replace XB := Lib.hid (carryN k9.2 XB.out)
  replace Q0 := Lib.hid (Q0.out.below k9.2)
  replace Q1 := Lib.hid (Q1.out.below k9.2)
  replace Q2 := Lib.hid (Q2.out.below k9.2)
  replace X0 := Lib.hid (X0.out.below k9.2)
  replace X1 := Lib.hid (X1.out.below k9.2)
  replace X2 := Lib.hid (X2.out.below k9.2)
  replace KK := Lib.hid (below_next KK.out k9.2)
  clear k9
  replace PB := Lib.hid PB
  replace P0 := Lib.hid P0
  replace P1 := Lib.hid P1
  replace P2 := Lib.hid P2
  replace PN0 := Lib.hid PN0
  replace PN1 := Lib.hid PN1
  replace PN2 := Lib.hid PN2
  replace PP01 := Lib.hid PP01
  replace PP02 := Lib.hid PP02
  replace PP12 := Lib.hid PP12
  have HP0 := Lib.hid (fun g (hg : rowBlk Pb0 y.es.length = some g) => (P0.out.blk hg).1)
  have HP1 := Lib.hid (fun g (hg : rowBlk Pb1 y.fl.length = some g) => (P1.out.blk hg).1)
  have HP2 := Lib.hid (fun g (hg : rowBlk Pb2 y.la.length = some g) => (P2.out.blk hg).1)
  have caW := cell_of_block aW.out
  have laW := lt_of_block aW.out
  have cbW := cell_of_block bW.out
  have lbW := lt_of_block bW.out
  have cQB := cell_of_block QB.out
  have lQB := lt_of_block QB.out
  have cXB := cell_of_block XB.out
  have lXB := lt_of_block XB.out
  have cPB := cell_of_block PB.out
  have lPB := lt_of_block PB.out
  go_wp2_with fail
  refine (eqGame_c y _ _ _ _ _ _ _ _ _ _ _ _ _ (P0.out.sl five_len) (P1.out.sl int_len) (P2.out.sl int_len) (Q0.out.sl five_len) (Q1.out.sl int_len) (Q2.out.sl int_len)).mono ?_
  rintro e w10 ⟨rfl, kk⟩
  clear caW laW cbW lbW cQB lQB cXB lXB cPB lPB
  replace aW := Lib.hid (carryN kk aW.out)
  replace bW := Lib.hid (carryN kk bW.out)
  replace QB := Lib.hid (carryN kk QB.out)
  replace XB := Lib.hid (carryN kk XB.out)
  replace PB := Lib.hid (carryN kk PB.out)
  replace Q0 := Lib.hid (Q0.out.below kk)
  replace Q1 := Lib.hid (Q1.out.below kk)
  replace Q2 := Lib.hid (Q2.out.below kk)
  replace X0 := Lib.hid (X0.out.below kk)
  replace X1 := Lib.hid (X1.out.below kk)
  replace X2 := Lib.hid (X2.out.below kk)
  replace P0 := Lib.hid (P0.out.below kk)
  replace P1 := Lib.hid (P1.out.below kk)
  replace P2 := Lib.hid (P2.out.below kk)
  replace KK := Lib.hid (below_next KK.out kk)
  clear kk
  have caW := cell_of_block aW.out
  have laW := lt_of_block aW.out
  have cbW := cell_of_block bW.out
  have lbW := lt_of_block bW.out
  have cQB := cell_of_block QB.out
  have lQB := lt_of_block QB.out
  have cXB := cell_of_block XB.out
  have lXB := lt_of_block XB.out
  have cPB := cell_of_block PB.out
  have lPB := lt_of_block PB.out
  go_wp2_with fail
  refine wp_region_held_drew (S := fun w' => ((∀ b o, b < w10.heap.size → (w').cell? ⟨b, o, none⟩ = (w10).cell? ⟨b, o, none⟩) ∧ Below (w10.heap.size) (w10) (w'))) (by kernel_rfl) (KeptB.drew (KeptB.refl _ _)) (fun hHeld => ?_)
  have RK := Lib.hid (KeptB.drew (KeptB.refl w10.heap.size w10))
  refine wpAnyH_take (i := 0) (oi := _) (v := ?_) (by (simp only [List.getElem?_toArray]; rfl)) (by kernel_rfl) (by kernel_rfl) (by kernel_rfl) (by exact fun _ _ _ h => h) (Or.inl ⟨by rfl, ?_⟩) (by assumption) ?_
  rotate_left
  · intro wS hSw
    go_simp
    all_goals first | with_reducible rfl | rw [if_neg (by omega)]
  simp only [Act.put, List.setIfInBounds_toArray, List.set]
  refine wpAnyH_take (i := 1) (oi := _) (v := ?_) (by (simp only [List.getElem?_toArray]; rfl)) (by kernel_rfl) (by kernel_rfl) (by kernel_rfl) (by exact fun _ _ _ h => h) (Or.inl ⟨by rfl, ?_⟩) (by assumption) ?_
  rotate_left
  · intro wS hSw
    go_simp
    all_goals first | with_reducible rfl | rw [if_neg (by omega)]
  simp only [Act.put, List.setIfInBounds_toArray, List.set]
  refine wpAnyH_ready (rs := [2]) (by kernel_rfl) (by simp) ?_
  refine AllReadyH.cons (o := _) (by (simp only [List.getElem?_toArray]; rfl)) (fun K hK => ?_) AllReadyH.nil
  go_simp
  refine (toGame_b z _ _ _ _ _ _ _ (S0.out.below (below_next KK.out RK.out.2)) (S1.out.below (below_next KK.out RK.out.2)) (S2.out.below (below_next KK.out RK.out.2)) hz0 hz1 hz2).mono ?_
  rintro e w11 ⟨gc0, gc1, gc2, rfl, q0, q1, q2, hgc0, hgc1, hgc2, kk⟩
  clear hgc0 hgc1 hgc2
  have RK1 := Lib.hid (KeptB.next (Nat.le_refl _) RK.out kk)
  clear kk
  refine hK.out _ _ RK1.out (fun hHeld => ?_)
  clear hK K hHeld
  try simp only [Act.put, List.setIfInBounds_toArray, List.set]
  refine wpAnyH_ready (rs := [3]) (by kernel_rfl) (by simp) ?_
  refine AllReadyH.cons (o := _) (by (simp only [List.getElem?_toArray]; rfl)) (fun K hK => ?_) AllReadyH.nil
  go_simp
  refine (eqGame_c z _ _ _ _ _ _ _ _ _ _ _ _ _ ((X0.out.sl five_len).below RK1.out.2) ((X1.out.sl int_len).below RK1.out.2) ((X2.out.sl int_len).below RK1.out.2) (sl_of_block five_len q0 rfl hz0) (sl_of_block int_len q1 rfl hz1) (sl_of_block int_len q2 rfl hz2)).mono ?_
  rintro e w12 ⟨rfl, kk⟩
  have RK2 := Lib.hid (KeptB.next (Nat.le_refl _) RK1.out kk)
  clear kk q0 q1 q2
  refine hK.out _ _ RK2.out (fun hHeld => ?_)
  clear hK K hHeld
  try simp only [Act.put, List.setIfInBounds_toArray, List.set]
  refine wpAnyH_take (i := 4) (oi := _) (v := ?_) (by (simp only [List.getElem?_toArray]; rfl)) (by kernel_rfl) (by kernel_rfl) (by kernel_rfl) (by exact fun _ _ _ h => h) (Or.inl ⟨by rfl, ?_⟩) (by assumption) ?_
  rotate_left
  · intro wS hSw
    go_simp
    all_goals first | with_reducible rfl | rw [if_neg (by omega)]
  simp only [Act.put, List.setIfInBounds_toArray, List.set]
  refine wpAnyH_done (by kernel_rfl) ?_ _
  clear caW laW cbW lbW cQB lQB cXB lXB cPB lPB
  replace aW := Lib.hid (carryN RK2.out.2 aW.out)
  replace bW := Lib.hid (carryN RK2.out.2 bW.out)
  replace QB := Lib.hid (carryN RK2.out.2 QB.out)
  replace XB := Lib.hid (carryN RK2.out.2 XB.out)
  replace PB := Lib.hid (carryN RK2.out.2 PB.out)
  replace Q0 := Lib.hid (Q0.out.below RK2.out.2)
  replace Q1 := Lib.hid (Q1.out.below RK2.out.2)
  replace Q2 := Lib.hid (Q2.out.below RK2.out.2)
  replace X0 := Lib.hid (X0.out.below RK2.out.2)
  replace X1 := Lib.hid (X1.out.below RK2.out.2)
  replace X2 := Lib.hid (X2.out.below RK2.out.2)
  replace P0 := Lib.hid (P0.out.below RK2.out.2)
  replace P1 := Lib.hid (P1.out.below RK2.out.2)
  replace P2 := Lib.hid (P2.out.below RK2.out.2)
  replace KK := Lib.hid (below_next KK.out RK2.out.2)
  clear RK RK1 RK2
  have caW := cell_of_block aW.out
  have laW := lt_of_block aW.out
  have cbW := cell_of_block bW.out
  have lbW := lt_of_block bW.out
  have cQB := cell_of_block QB.out
  have lQB := lt_of_block QB.out
  have cXB := cell_of_block XB.out
  have lXB := lt_of_block XB.out
  have cPB := cell_of_block PB.out
  have lPB := lt_of_block PB.out
  go_wp2_with fail
  refine (markGame_r 1 _ X0.out X1.out X2.out (fun g u v => by have := rowBlk_some u; have := rowBlk_some v; omega) (fun g u v => by have := rowBlk_some u; have := rowBlk_some v; omega) (fun g u v => by have := rowBlk_some u; have := rowBlk_some v; omega) rfl rfl rfl (by omega) (by omega) (by omega) (by omega) (by omega)).mono ?_
  rintro e w13 ⟨rfl, mX0, mX1, mX2, tX⟩
  clear caW laW cbW lbW cQB lQB cXB lXB cPB lPB
  replace aW := Lib.hid (carryT tX aW.out (fun hp => by have := daW.out; rcases hp with hp | hp | hp <;> (have := rowBlk_some hp; omega)))
  replace bW := Lib.hid (carryT tX bW.out (fun hp => by have := dbW.out; rcases hp with hp | hp | hp <;> (have := rowBlk_some hp; omega)))
  replace QB := Lib.hid (carryT tX QB.out (fun hp => by have := dQB.out; rcases hp with hp | hp | hp <;> (have := rowBlk_some hp; omega)))
  replace XB := Lib.hid (carryT tX XB.out (fun hp => by rcases hp with hp | hp | hp <;> (have := rowBlk_some hp; omega)))
  replace PB := Lib.hid (carryT tX PB.out (fun hp => by rcases hp with hp | hp | hp <;> (have := rowBlk_some hp; omega)))
  replace Q0 := Lib.hid (Q0.out.turned tX (fun g hg hp => by have := HQ0.out g hg; rcases hp with hp | hp | hp <;> (have := rowBlk_some hp; omega)))
  replace Q1 := Lib.hid (Q1.out.turned tX (fun g hg hp => by have := HQ1.out g hg; rcases hp with hp | hp | hp <;> (have := rowBlk_some hp; omega)))
  replace Q2 := Lib.hid (Q2.out.turned tX (fun g hg hp => by have := HQ2.out g hg; rcases hp with hp | hp | hp <;> (have := rowBlk_some hp; omega)))
  replace P0 := Lib.hid (P0.out.turned tX (fun g hg hp => by have := HP0.out g hg; rcases hp with hp | hp | hp <;> (have := rowBlk_some hp; omega)))
  replace P1 := Lib.hid (P1.out.turned tX (fun g hg hp => by have := HP1.out g hg; rcases hp with hp | hp | hp <;> (have := rowBlk_some hp; omega)))
  replace P2 := Lib.hid (P2.out.turned tX (fun g hg hp => by have := HP2.out g hg; rcases hp with hp | hp | hp <;> (have := rowBlk_some hp; omega)))
  replace KK := Lib.hid (KK.out.trans (tX.below KK.out.size (fun g hp => by have := hK5.out; rcases hp with hp | hp | hp <;> (have := rowBlk_some hp; omega))))
  clear tX mX0 mX1 mX2 X0 X1 X2
  have hng : ¬ ((1 : Int) + ((z.es.length * 5 : Nat) : Int) + (z.fl.length : Int) + (z.la.length : Int)) < 0 := by omega
  have caW := cell_of_block aW.out
  have laW := lt_of_block aW.out
  have cbW := cell_of_block bW.out
  have lbW := lt_of_block bW.out
  have cQB := cell_of_block QB.out
  have lQB := lt_of_block QB.out
  have cXB := cell_of_block XB.out
  have lXB := lt_of_block XB.out
  have cPB := cell_of_block PB.out
  have lPB := lt_of_block PB.out
  go_wp2_with fail
  refine (eqGame_c y _ _ _ _ _ _ _ _ _ _ _ _ _ (P0.out.sl five_len) (P1.out.sl int_len) (P2.out.sl int_len) (Q0.out.sl five_len) (Q1.out.sl int_len) (Q2.out.sl int_len)).mono ?_
  rintro e w14 ⟨rfl, kk⟩
  clear caW laW cbW lbW cQB lQB cXB lXB cPB lPB
  replace aW := Lib.hid (carryN kk aW.out)
  replace bW := Lib.hid (carryN kk bW.out)
  replace QB := Lib.hid (carryN kk QB.out)
  replace XB := Lib.hid (carryN kk XB.out)
  replace PB := Lib.hid (carryN kk PB.out)
  replace Q0 := Lib.hid (Q0.out.below kk)
  replace Q1 := Lib.hid (Q1.out.below kk)
  replace Q2 := Lib.hid (Q2.out.below kk)
  replace P0 := Lib.hid (P0.out.below kk)
  replace P1 := Lib.hid (P1.out.below kk)
  replace P2 := Lib.hid (P2.out.below kk)
  replace KK := Lib.hid (below_next KK.out kk)
  clear kk
  have caW := cell_of_block aW.out
  have laW := lt_of_block aW.out
  have cbW := cell_of_block bW.out
  have lbW := lt_of_block bW.out
  have cQB := cell_of_block QB.out
  have lQB := lt_of_block QB.out
  have cXB := cell_of_block XB.out
  have lXB := lt_of_block XB.out
  have cPB := cell_of_block PB.out
  have lPB := lt_of_block PB.out
  go_wp2_with fail
  refine (markGame_r 1 _ P0.out P1.out P2.out PP01.out PP02.out PP12.out rfl rfl rfl (by omega) (by omega) (by omega) (by omega) (by omega)).mono ?_
  rintro e w15 ⟨rfl, mP0, mP1, mP2, tP⟩
  clear caW laW cbW lbW cQB lQB cXB lXB cPB lPB
  replace aW := Lib.hid (carryT tP aW.out (fun hp => by have := baW.out; rcases hp with hp | hp | hp <;> (first | (have := HP0.out _ hp; omega) | (have := HP1.out _ hp; omega) | (have := HP2.out _ hp; omega))))
  replace bW := Lib.hid (carryT tP bW.out (fun hp => by have := bbW.out; rcases hp with hp | hp | hp <;> (first | (have := HP0.out _ hp; omega) | (have := HP1.out _ hp; omega) | (have := HP2.out _ hp; omega))))
  replace QB := Lib.hid (carryT tP QB.out (fun hp => by have := bQB.out; rcases hp with hp | hp | hp <;> (first | (have := HP0.out _ hp; omega) | (have := HP1.out _ hp; omega) | (have := HP2.out _ hp; omega))))
  replace XB := Lib.hid (carryT tP XB.out (fun hp => by have := bXB.out; rcases hp with hp | hp | hp <;> (first | (have := HP0.out _ hp; omega) | (have := HP1.out _ hp; omega) | (have := HP2.out _ hp; omega))))
  replace PB := Lib.hid (carryT tP PB.out (fun hp => by rcases hp with hp | hp | hp <;> first | exact PN0.out _ hp rfl | exact PN1.out _ hp rfl | exact PN2.out _ hp rfl))
  replace Q0 := Lib.hid (Q0.out.turned tP (fun g hg hp => by have := HQ0.out g hg; rcases hp with hp | hp | hp <;> (first | (have := HP0.out _ hp; omega) | (have := HP1.out _ hp; omega) | (have := HP2.out _ hp; omega))))
  replace Q1 := Lib.hid (Q1.out.turned tP (fun g hg hp => by have := HQ1.out g hg; rcases hp with hp | hp | hp <;> (first | (have := HP0.out _ hp; omega) | (have := HP1.out _ hp; omega) | (have := HP2.out _ hp; omega))))
  replace Q2 := Lib.hid (Q2.out.turned tP (fun g hg hp => by have := HQ2.out g hg; rcases hp with hp | hp | hp <;> (first | (have := HP0.out _ hp; omega) | (have := HP1.out _ hp; omega) | (have := HP2.out _ hp; omega))))
  replace KK := Lib.hid (KK.out.trans (tP.below KK.out.size (fun g hp => by have := hKK.out; rcases hp with hp | hp | hp <;> (first | (have := HP0.out _ hp; omega) | (have := HP1.out _ hp; omega) | (have := HP2.out _ hp; omega)))))
  replace mP0 := Lib.hid mP0
  replace mP1 := Lib.hid mP1
  replace mP2 := Lib.hid mP2
  clear tP
  have hny : ¬ ((1 : Int) + ((y.es.length * 5 : Nat) : Int) + (y.fl.length : Int) + (y.la.length : Int)) < 0 := by omega
  have caW := cell_of_block aW.out
  have laW := lt_of_block aW.out
  have cbW := cell_of_block bW.out
  have lbW := lt_of_block bW.out
  have cQB := cell_of_block QB.out
  have lQB := lt_of_block QB.out
  have cXB := cell_of_block XB.out
  have lXB := lt_of_block XB.out
  have cPB := cell_of_block PB.out
  have lPB := lt_of_block PB.out
  go_wp2_with fail
  refine (heldGame_r 1 _ P0.out P1.out P2.out rfl rfl rfl mP0.out mP1.out mP2.out (by omega) (by omega) (by omega) (by omega) (by omega)).mono ?_
  rintro e w16 ⟨rfl, kk⟩
  clear caW laW cbW lbW cQB lQB cXB lXB cPB lPB
  replace aW := Lib.hid (carryN kk aW.out)
  replace bW := Lib.hid (carryN kk bW.out)
  replace QB := Lib.hid (carryN kk QB.out)
  replace XB := Lib.hid (carryN kk XB.out)
  replace PB := Lib.hid (carryN kk PB.out)
  replace Q0 := Lib.hid (Q0.out.below kk)
  replace Q1 := Lib.hid (Q1.out.below kk)
  replace Q2 := Lib.hid (Q2.out.below kk)
  replace mP0 := Lib.hid (mP0.out.below kk)
  replace mP1 := Lib.hid (mP1.out.below kk)
  replace mP2 := Lib.hid (mP2.out.below kk)
  replace KK := Lib.hid (below_next KK.out kk)
  clear kk
  have caW := cell_of_block aW.out
  have laW := lt_of_block aW.out
  have cbW := cell_of_block bW.out
  have lbW := lt_of_block bW.out
  have cQB := cell_of_block QB.out
  have lQB := lt_of_block QB.out
  have cXB := cell_of_block XB.out
  have lXB := lt_of_block XB.out
  have cPB := cell_of_block PB.out
  have lPB := lt_of_block PB.out
  go_wp2_with fail
  refine wp_region_held_drew (S := fun w' => ((∀ b o, b < w16.heap.size → (w').cell? ⟨b, o, none⟩ = (w16).cell? ⟨b, o, none⟩) ∧ Below (w16.heap.size) (w16) (w'))) (by kernel_rfl) (KeptB.drew (KeptB.refl _ _)) (fun hHeld => ?_)
  refine introFin2 (X := Xs) 0 #[true, true, true, true, true, true, true, true, true, true, true] (fun x T => ((((((((((T).setIfInBounds 80 (.agg #[.slice a0 z.es.length c0, .slice a1 z.fl.length c1, .slice a2 z.la.length c2])).setIfInBounds 82 (.agg #[.int .i64 r.c, .int .i64 r.n, .int .i64 r.o, .int .i64 r.x, .int .i64 r.y])).setIfInBounds 81 (x.v0)).setIfInBounds 83 (.agg #[.int .i64 r.c, .int .i64 r.n, .int .i64 r.o, .int .i64 r.x, .int .i64 r.y])).setIfInBounds 84 (.tuple #[.agg #[.slice x.a0 y.es.length y.es.length, .slice x.a1 y.fl.length y.fl.length, .slice x.a2 y.la.length y.la.length], .int .i64 b])).setIfInBounds 79 (.tuple #[.agg #[.slice x.a0 y.es.length y.es.length, .slice x.a1 y.fl.length y.fl.length, .slice x.a2 y.la.length y.la.length], .int .i64 b])).setIfInBounds 85 (.agg #[.slice x.a0 y.es.length y.es.length, .slice x.a1 y.fl.length y.fl.length, .slice x.a2 y.la.length y.la.length])).setIfInBounds 86 (.int .i64 b)).setIfInBounds 15 (.int .i64 b)).setIfInBounds 14 (.pointer (some ⟨x.x, 0, none⟩))) (fun x w' => (((∀ b o, b < w16.heap.size → (w').cell? ⟨b, o, none⟩ = (w16).cell? ⟨b, o, none⟩) ∧ Below (w16.heap.size) (w16) (w'))) ∧ w'.heap[x.x]? = some (.cells #[.slice x.a0 y.es.length y.es.length, .slice x.a1 y.fl.length y.fl.length, .slice x.a2 y.la.length y.la.length] 46 (0, 0)) ∧ w16.heap.size ≤ x.x ∧ Row w' w16.heap.size 92 x.a0 y.es.length 5 Rq.cs y.es ∧ Row w' w16.heap.size 3 x.a1 y.fl.length 1 intR y.fl ∧ Row w' w16.heap.size 3 x.a2 y.la.length 1 intR y.la ∧ (∀ g, rowBlk x.a0 y.es.length = some g → g ≠ x.x) ∧ (∀ g, rowBlk x.a1 y.fl.length = some g → g ≠ x.x) ∧ (∀ g, rowBlk x.a2 y.la.length = some g → g ≠ x.x) ∧ (∀ g, rowBlk x.a0 y.es.length = some g → rowBlk x.a1 y.fl.length ≠ some g) ∧ (∀ g, rowBlk x.a0 y.es.length = some g → rowBlk x.a2 y.la.length ≠ some g) ∧ (∀ g, rowBlk x.a1 y.fl.length = some g → rowBlk x.a2 y.la.length ≠ some g)) ?_ (fun hfin => ?_)
  rotate_left
  · obtain ⟨wd, hwd, kwd⟩ : ∃ wd, wd = w16.drew ∧ Below w16.heap.size w16 wd := ⟨_, rfl, Below.drew (Below.refl _ _)⟩
    rw [← hwd] at hHeld ⊢
    clear hwd
    have RK := Lib.hid (KeptB.of kwd)
    clear kwd
    refine wpAnyH_take (i := 0) (oi := _) (v := ?_) (by (simp only [List.getElem?_toArray]; rfl)) (by kernel_rfl) (by kernel_rfl) (by kernel_rfl) (by exact fun _ _ _ h => h) (Or.inl ⟨by rfl, ?_⟩) (by assumption) ?_
    rotate_left
    · intro wS hSw
      go_simp
      all_goals first | with_reducible rfl | rw [if_neg (by omega)]
    simp only [Act.put, List.setIfInBounds_toArray, List.set]
    refine wpAnyH_take (i := 2) (oi := _) (v := ?_) (by (simp only [List.getElem?_toArray]; rfl)) (by kernel_rfl) (by kernel_rfl) (by kernel_rfl) (by exact fun _ _ _ h => h) (Or.inl ⟨by rfl, ?_⟩) (by assumption) ?_
    rotate_left
    · intro wS hSw
      go_simp
      all_goals first | with_reducible rfl | rw [if_neg (by omega)]
    simp only [Act.put, List.setIfInBounds_toArray, List.set]
    refine wpAnyH_ready (rs := [1, 8]) (by kernel_rfl) (by simp) ?_
    refine AllReadyH.cons (o := _) (by (simp only [List.getElem?_toArray]; rfl)) (fun K hK => ?_) ?_
    · skip
      go_simp
      refine (toGame_b z _ _ _ _ _ _ _ (S0.out.below (below_next KK.out RK.out.2)) (S1.out.below (below_next KK.out RK.out.2)) (S2.out.below (below_next KK.out RK.out.2)) hz0 hz1 hz2).mono ?_
      rintro e wkC0RK ⟨gc0, gc1, gc2, rfl, q0, q1, q2, hg0, hg1, hg2, kk⟩
      have kC0RK := Lib.hid (KeptB.next (Nat.le_refl _) RK.out kk)
      clear kk
      refine hK.out _ _ kC0RK.out (fun hHeld => ?_)
      clear hK K hHeld
      try simp only [Act.put, List.setIfInBounds_toArray, List.set]
      refine wpAnyH_ready (rs := [3, 8]) (by kernel_rfl) (by simp) ?_
      refine AllReadyH.cons (o := _) (by (simp only [List.getElem?_toArray]; rfl)) (fun K hK => ?_) ?_
      · skip
        go_simp
        refine (toReq_c r.c r.n r.o r.x r.y _).mono ?_
        rintro e wkC1kC0RK ⟨rfl, kk⟩
        replace q0 := carryN kk q0
        replace q1 := carryN kk q1
        replace q2 := carryN kk q2
        have kC1kC0RK := Lib.hid (KeptB.next (Nat.le_refl _) kC0RK.out kk)
        clear kk
        refine hK.out _ _ kC1kC0RK.out (fun hHeld => ?_)
        clear hK K hHeld
        try simp only [Act.put, List.setIfInBounds_toArray, List.set]
        refine wpAnyH_ready (rs := [4, 8]) (by kernel_rfl) (by simp) ?_
        refine AllReadyH.cons (o := _) (by (simp only [List.getElem?_toArray]; rfl)) (fun K hK => ?_) ?_
        · skip
          go_simp
          refine (CI.out _ _ _ _ _ _ _ (sl_of_block five_len q0 rfl hz0) (sl_of_block int_len q1 rfl hz1) (sl_of_block int_len q2 rfl hz2) hs).mono ?_
          rintro e wkC2kC1kC0RK ⟨b0, b1, b2, rfl, r0, r1, r2, p01, p02, p12, kk⟩
          replace r0 := r0.low kC1kC0RK.out.2.size
          replace r1 := r1.low kC1kC0RK.out.2.size
          replace r2 := r2.low kC1kC0RK.out.2.size
          have kC2kC1kC0RK := Lib.hid (KeptB.next (Nat.le_refl _) kC1kC0RK.out kk)
          clear kk
          refine hK.out _ _ kC2kC1kC0RK.out (fun hHeld => ?_)
          clear hK K hHeld
          try simp only [Act.put, List.setIfInBounds_toArray, List.set]
          refine wpAnyH_take (i := 5) (oi := _) (v := ?_) (by (simp only [List.getElem?_toArray]; rfl)) (by kernel_rfl) (by kernel_rfl) (by kernel_rfl) (by exact fun _ _ _ h => h) (Or.inl ⟨by rfl, ?_⟩) (by assumption) ?_
          rotate_left
          · intro wS hSw
            go_simp
            all_goals first | with_reducible rfl | rw [if_neg (by omega)]
          simp only [Act.put, List.setIfInBounds_toArray, List.set]
          refine wpAnyH_take (i := 6) (oi := _) (v := ?_) (by (simp only [List.getElem?_toArray]; rfl)) (by kernel_rfl) (by kernel_rfl) (by kernel_rfl) (by exact fun _ _ _ h => h) (Or.inl ⟨by rfl, ?_⟩) (by assumption) ?_
          rotate_left
          · intro wS hSw
            go_simp
            all_goals first | with_reducible rfl | rw [if_neg (by omega)]
          simp only [Act.put, List.setIfInBounds_toArray, List.set]
          refine wpAnyH_take (i := 7) (oi := _) (v := ?_) (by (simp only [List.getElem?_toArray]; rfl)) (by kernel_rfl) (by kernel_rfl) (by kernel_rfl) (by exact fun _ _ _ h => h) (Or.inl ⟨by rfl, ?_⟩) (by assumption) ?_
          rotate_left
          · intro wS hSw
            go_simp
            all_goals first | with_reducible rfl | rw [if_neg (by omega)]
          simp only [Act.put, List.setIfInBounds_toArray, List.set]
          refine wpAnyH_ready (rs := [8]) (by kernel_rfl) (by simp) ?_
          refine AllReadyH.cons (o := _) (by (simp only [List.getElem?_toArray]; rfl)) (fun K hK => ?_) AllReadyH.nil
          refine step_alloc (by rfl) (by rfl) (z := .agg #[.slice none 0 0, .slice none 0 0, .slice none 0 0]) (cs := #[.slice none 0 0, .slice none 0 0, .slice none 0 0]) (by kernel_rfl) rfl ?_
          obtain ⟨wAkC2kC1kC0RK, hw', sw', hv, kw'⟩ := blocks1 wkC2kC1kC0RK (.cells #[.slice none 0 0, .slice none 0 0, .slice none 0 0] 46)
          rw [← hw']
          clear hw' sw'
          have kAkC2kC1kC0RK := Lib.hid (KeptB.next (Nat.le_refl _) kC2kC1kC0RK.out kw')
          have hvx : w16.heap.size ≤ wkC2kC1kC0RK.heap.size := kC2kC1kC0RK.out.2.size
          have hvn0 : ∀ g, rowBlk b0 y.es.length = some g → g ≠ wkC2kC1kC0RK.heap.size := fun g hg => by have := (r0.blk hg).2; omega
          replace r0 := r0.below kw'
          have hvn1 : ∀ g, rowBlk b1 y.fl.length = some g → g ≠ wkC2kC1kC0RK.heap.size := fun g hg => by have := (r1.blk hg).2; omega
          replace r1 := r1.below kw'
          have hvn2 : ∀ g, rowBlk b2 y.la.length = some g → g ≠ wkC2kC1kC0RK.heap.size := fun g hg => by have := (r2.blk hg).2; omega
          replace r2 := r2.below kw'
          clear kw'
          refine hK.out _ _ kAkC2kC1kC0RK.out (fun hHeld => ?_)
          clear hK K hHeld
          try simp only [Act.put, List.setIfInBounds_toArray, List.set]
          refine wpAnyH_ready (rs := [9]) (by kernel_rfl) (by simp) ?_
          refine AllReadyH.cons (o := _) (by (simp only [List.getElem?_toArray]; rfl)) (fun K hK => ?_) AllReadyH.nil
          have cv := cell_of_block hv
          have fv := unfrozen_of_block hv
          go_simp
          have kSkAkC2kC1kC0RK := Lib.hid (KeptB.set (p := ⟨wkC2kC1kC0RK.heap.size, 2, none⟩) hvx (.slice b2 y.la.length y.la.length) (KeptB.set (p := ⟨wkC2kC1kC0RK.heap.size, 1, none⟩) hvx (.slice b1 y.fl.length y.fl.length) (KeptB.set (p := ⟨wkC2kC1kC0RK.heap.size, 0, none⟩) hvx (.slice b0 y.es.length y.es.length) kAkC2kC1kC0RK.out)))
          replace r0 := ((r0.setNe (p := ⟨wkC2kC1kC0RK.heap.size, 0, none⟩) hvn0 (.slice b0 y.es.length y.es.length)).setNe (p := ⟨wkC2kC1kC0RK.heap.size, 1, none⟩) hvn0 (.slice b1 y.fl.length y.fl.length)).setNe (p := ⟨wkC2kC1kC0RK.heap.size, 2, none⟩) hvn0 (.slice b2 y.la.length y.la.length)
          replace r1 := ((r1.setNe (p := ⟨wkC2kC1kC0RK.heap.size, 0, none⟩) hvn1 (.slice b0 y.es.length y.es.length)).setNe (p := ⟨wkC2kC1kC0RK.heap.size, 1, none⟩) hvn1 (.slice b1 y.fl.length y.fl.length)).setNe (p := ⟨wkC2kC1kC0RK.heap.size, 2, none⟩) hvn1 (.slice b2 y.la.length y.la.length)
          replace r2 := ((r2.setNe (p := ⟨wkC2kC1kC0RK.heap.size, 0, none⟩) hvn2 (.slice b0 y.es.length y.es.length)).setNe (p := ⟨wkC2kC1kC0RK.heap.size, 1, none⟩) hvn2 (.slice b1 y.fl.length y.fl.length)).setNe (p := ⟨wkC2kC1kC0RK.heap.size, 2, none⟩) hvn2 (.slice b2 y.la.length y.la.length)
          replace hv := block_setCell (i := 2) (block_setCell (i := 1) (block_setCell (i := 0) hv (.slice b0 y.es.length y.es.length)) (.slice b1 y.fl.length y.fl.length)) (.slice b2 y.la.length y.la.length)
          clear cv fv
          refine hK.out _ _ kSkAkC2kC1kC0RK.out (fun hHeld => ?_)
          clear hK K hHeld
          try simp only [Act.put, List.setIfInBounds_toArray, List.set]
          refine wpAnyH_take (i := 10) (oi := _) (v := ?_) (by (simp only [List.getElem?_toArray]; rfl)) (by kernel_rfl) (by kernel_rfl) (by kernel_rfl) (by exact fun _ _ _ h => h) (Or.inl ⟨by rfl, ?_⟩) (by assumption) ?_
          rotate_left
          · intro wS hSw
            go_simp
            all_goals first | with_reducible rfl | rw [if_neg (by omega)]
          simp only [Act.put, List.setIfInBounds_toArray, List.set]
          refine hfin ⟨(.agg #[.slice (some ⟨gc0, 0, none⟩) z.es.length z.es.length, .slice (some ⟨gc1, 0, none⟩) z.fl.length z.fl.length, .slice (some ⟨gc2, 0, none⟩) z.la.length z.la.length]), undef, undef, b0, b1, b2, 0, 0, 0, wkC2kC1kC0RK.heap.size⟩ _ _ _ (by kernel_rfl) ?_ ⟨kSkAkC2kC1kC0RK.out, hv, hvx, r0, r1, r2, hvn0, hvn1, hvn2, p01, p02, p12⟩
          simp only [List.setIfInBounds_toArray, List.set]
        refine AllReadyH.cons (o := _) (by (simp only [List.getElem?_toArray]; rfl)) (fun K hK => ?_) ?_
        · skip
          refine step_alloc (by rfl) (by rfl) (z := .agg #[.slice none 0 0, .slice none 0 0, .slice none 0 0]) (cs := #[.slice none 0 0, .slice none 0 0, .slice none 0 0]) (by kernel_rfl) rfl ?_
          obtain ⟨wAkC1kC0RK, hw', sw', hv, kw'⟩ := blocks1 wkC1kC0RK (.cells #[.slice none 0 0, .slice none 0 0, .slice none 0 0] 46)
          rw [← hw']
          clear hw' sw'
          have kAkC1kC0RK := Lib.hid (KeptB.next (Nat.le_refl _) kC1kC0RK.out kw')
          have hvx : w16.heap.size ≤ wkC1kC0RK.heap.size := kC1kC0RK.out.2.size
          replace q0 := carryN kw' q0
          replace q1 := carryN kw' q1
          replace q2 := carryN kw' q2
          clear kw'
          refine hK.out _ _ kAkC1kC0RK.out (fun hHeld => ?_)
          clear hK K hHeld
          try simp only [Act.put, List.setIfInBounds_toArray, List.set]
          refine wpAnyH_ready (rs := [4]) (by kernel_rfl) (by simp) ?_
          refine AllReadyH.cons (o := _) (by (simp only [List.getElem?_toArray]; rfl)) (fun K hK => ?_) AllReadyH.nil
          go_simp
          refine (CI.out _ _ _ _ _ _ _ (sl_of_block five_len q0 rfl hz0) (sl_of_block int_len q1 rfl hz1) (sl_of_block int_len q2 rfl hz2) hs).mono ?_
          rintro e wkC2kAkC1kC0RK ⟨b0, b1, b2, rfl, r0, r1, r2, p01, p02, p12, kk⟩
          have hvn0 : ∀ g, rowBlk b0 y.es.length = some g → g ≠ wkC1kC0RK.heap.size := fun g hg => by have := (r0.blk hg).1; have := lt_of_block hv; omega
          have hvn1 : ∀ g, rowBlk b1 y.fl.length = some g → g ≠ wkC1kC0RK.heap.size := fun g hg => by have := (r1.blk hg).1; have := lt_of_block hv; omega
          have hvn2 : ∀ g, rowBlk b2 y.la.length = some g → g ≠ wkC1kC0RK.heap.size := fun g hg => by have := (r2.blk hg).1; have := lt_of_block hv; omega
          replace r0 := r0.low kAkC1kC0RK.out.2.size
          replace r1 := r1.low kAkC1kC0RK.out.2.size
          replace r2 := r2.low kAkC1kC0RK.out.2.size
          have kC2kAkC1kC0RK := Lib.hid (KeptB.next (Nat.le_refl _) kAkC1kC0RK.out kk)
          replace hv := carryN kk hv
          clear kk
          refine hK.out _ _ kC2kAkC1kC0RK.out (fun hHeld => ?_)
          clear hK K hHeld
          try simp only [Act.put, List.setIfInBounds_toArray, List.set]
          refine wpAnyH_take (i := 5) (oi := _) (v := ?_) (by (simp only [List.getElem?_toArray]; rfl)) (by kernel_rfl) (by kernel_rfl) (by kernel_rfl) (by exact fun _ _ _ h => h) (Or.inl ⟨by rfl, ?_⟩) (by assumption) ?_
          rotate_left
          · intro wS hSw
            go_simp
            all_goals first | with_reducible rfl | rw [if_neg (by omega)]
          simp only [Act.put, List.setIfInBounds_toArray, List.set]
          refine wpAnyH_take (i := 6) (oi := _) (v := ?_) (by (simp only [List.getElem?_toArray]; rfl)) (by kernel_rfl) (by kernel_rfl) (by kernel_rfl) (by exact fun _ _ _ h => h) (Or.inl ⟨by rfl, ?_⟩) (by assumption) ?_
          rotate_left
          · intro wS hSw
            go_simp
            all_goals first | with_reducible rfl | rw [if_neg (by omega)]
          simp only [Act.put, List.setIfInBounds_toArray, List.set]
          refine wpAnyH_take (i := 7) (oi := _) (v := ?_) (by (simp only [List.getElem?_toArray]; rfl)) (by kernel_rfl) (by kernel_rfl) (by kernel_rfl) (by exact fun _ _ _ h => h) (Or.inl ⟨by rfl, ?_⟩) (by assumption) ?_
          rotate_left
          · intro wS hSw
            go_simp
            all_goals first | with_reducible rfl | rw [if_neg (by omega)]
          simp only [Act.put, List.setIfInBounds_toArray, List.set]
          refine wpAnyH_ready (rs := [9]) (by kernel_rfl) (by simp) ?_
          refine AllReadyH.cons (o := _) (by (simp only [List.getElem?_toArray]; rfl)) (fun K hK => ?_) AllReadyH.nil
          have cv := cell_of_block hv
          have fv := unfrozen_of_block hv
          go_simp
          have kSkC2kAkC1kC0RK := Lib.hid (KeptB.set (p := ⟨wkC1kC0RK.heap.size, 2, none⟩) hvx (.slice b2 y.la.length y.la.length) (KeptB.set (p := ⟨wkC1kC0RK.heap.size, 1, none⟩) hvx (.slice b1 y.fl.length y.fl.length) (KeptB.set (p := ⟨wkC1kC0RK.heap.size, 0, none⟩) hvx (.slice b0 y.es.length y.es.length) kC2kAkC1kC0RK.out)))
          replace r0 := ((r0.setNe (p := ⟨wkC1kC0RK.heap.size, 0, none⟩) hvn0 (.slice b0 y.es.length y.es.length)).setNe (p := ⟨wkC1kC0RK.heap.size, 1, none⟩) hvn0 (.slice b1 y.fl.length y.fl.length)).setNe (p := ⟨wkC1kC0RK.heap.size, 2, none⟩) hvn0 (.slice b2 y.la.length y.la.length)
          replace r1 := ((r1.setNe (p := ⟨wkC1kC0RK.heap.size, 0, none⟩) hvn1 (.slice b0 y.es.length y.es.length)).setNe (p := ⟨wkC1kC0RK.heap.size, 1, none⟩) hvn1 (.slice b1 y.fl.length y.fl.length)).setNe (p := ⟨wkC1kC0RK.heap.size, 2, none⟩) hvn1 (.slice b2 y.la.length y.la.length)
          replace r2 := ((r2.setNe (p := ⟨wkC1kC0RK.heap.size, 0, none⟩) hvn2 (.slice b0 y.es.length y.es.length)).setNe (p := ⟨wkC1kC0RK.heap.size, 1, none⟩) hvn2 (.slice b1 y.fl.length y.fl.length)).setNe (p := ⟨wkC1kC0RK.heap.size, 2, none⟩) hvn2 (.slice b2 y.la.length y.la.length)
          replace hv := block_setCell (i := 2) (block_setCell (i := 1) (block_setCell (i := 0) hv (.slice b0 y.es.length y.es.length)) (.slice b1 y.fl.length y.fl.length)) (.slice b2 y.la.length y.la.length)
          clear cv fv
          refine hK.out _ _ kSkC2kAkC1kC0RK.out (fun hHeld => ?_)
          clear hK K hHeld
          try simp only [Act.put, List.setIfInBounds_toArray, List.set]
          refine wpAnyH_take (i := 10) (oi := _) (v := ?_) (by (simp only [List.getElem?_toArray]; rfl)) (by kernel_rfl) (by kernel_rfl) (by kernel_rfl) (by exact fun _ _ _ h => h) (Or.inl ⟨by rfl, ?_⟩) (by assumption) ?_
          rotate_left
          · intro wS hSw
            go_simp
            all_goals first | with_reducible rfl | rw [if_neg (by omega)]
          simp only [Act.put, List.setIfInBounds_toArray, List.set]
          refine hfin ⟨(.agg #[.slice (some ⟨gc0, 0, none⟩) z.es.length z.es.length, .slice (some ⟨gc1, 0, none⟩) z.fl.length z.fl.length, .slice (some ⟨gc2, 0, none⟩) z.la.length z.la.length]), undef, undef, b0, b1, b2, 0, 0, 0, wkC1kC0RK.heap.size⟩ _ _ _ (by kernel_rfl) ?_ ⟨kSkC2kAkC1kC0RK.out, hv, hvx, r0, r1, r2, hvn0, hvn1, hvn2, p01, p02, p12⟩
          simp only [List.setIfInBounds_toArray, List.set]
        exact AllReadyH.nil
      refine AllReadyH.cons (o := _) (by (simp only [List.getElem?_toArray]; rfl)) (fun K hK => ?_) ?_
      · skip
        refine step_alloc (by rfl) (by rfl) (z := .agg #[.slice none 0 0, .slice none 0 0, .slice none 0 0]) (cs := #[.slice none 0 0, .slice none 0 0, .slice none 0 0]) (by kernel_rfl) rfl ?_
        obtain ⟨wAkC0RK, hw', sw', hv, kw'⟩ := blocks1 wkC0RK (.cells #[.slice none 0 0, .slice none 0 0, .slice none 0 0] 46)
        rw [← hw']
        clear hw' sw'
        have kAkC0RK := Lib.hid (KeptB.next (Nat.le_refl _) kC0RK.out kw')
        have hvx : w16.heap.size ≤ wkC0RK.heap.size := kC0RK.out.2.size
        replace q0 := carryN kw' q0
        replace q1 := carryN kw' q1
        replace q2 := carryN kw' q2
        clear kw'
        refine hK.out _ _ kAkC0RK.out (fun hHeld => ?_)
        clear hK K hHeld
        try simp only [Act.put, List.setIfInBounds_toArray, List.set]
        refine wpAnyH_ready (rs := [3]) (by kernel_rfl) (by simp) ?_
        refine AllReadyH.cons (o := _) (by (simp only [List.getElem?_toArray]; rfl)) (fun K hK => ?_) AllReadyH.nil
        go_simp
        refine (toReq_c r.c r.n r.o r.x r.y _).mono ?_
        rintro e wkC1kAkC0RK ⟨rfl, kk⟩
        replace q0 := carryN kk q0
        replace q1 := carryN kk q1
        replace q2 := carryN kk q2
        have kC1kAkC0RK := Lib.hid (KeptB.next (Nat.le_refl _) kAkC0RK.out kk)
        replace hv := carryN kk hv
        clear kk
        refine hK.out _ _ kC1kAkC0RK.out (fun hHeld => ?_)
        clear hK K hHeld
        try simp only [Act.put, List.setIfInBounds_toArray, List.set]
        refine wpAnyH_ready (rs := [4]) (by kernel_rfl) (by simp) ?_
        refine AllReadyH.cons (o := _) (by (simp only [List.getElem?_toArray]; rfl)) (fun K hK => ?_) AllReadyH.nil
        go_simp
        refine (CI.out _ _ _ _ _ _ _ (sl_of_block five_len q0 rfl hz0) (sl_of_block int_len q1 rfl hz1) (sl_of_block int_len q2 rfl hz2) hs).mono ?_
        rintro e wkC2kC1kAkC0RK ⟨b0, b1, b2, rfl, r0, r1, r2, p01, p02, p12, kk⟩
        have hvn0 : ∀ g, rowBlk b0 y.es.length = some g → g ≠ wkC0RK.heap.size := fun g hg => by have := (r0.blk hg).1; have := lt_of_block hv; omega
        have hvn1 : ∀ g, rowBlk b1 y.fl.length = some g → g ≠ wkC0RK.heap.size := fun g hg => by have := (r1.blk hg).1; have := lt_of_block hv; omega
        have hvn2 : ∀ g, rowBlk b2 y.la.length = some g → g ≠ wkC0RK.heap.size := fun g hg => by have := (r2.blk hg).1; have := lt_of_block hv; omega
        replace r0 := r0.low kC1kAkC0RK.out.2.size
        replace r1 := r1.low kC1kAkC0RK.out.2.size
        replace r2 := r2.low kC1kAkC0RK.out.2.size
        have kC2kC1kAkC0RK := Lib.hid (KeptB.next (Nat.le_refl _) kC1kAkC0RK.out kk)
        replace hv := carryN kk hv
        clear kk
        refine hK.out _ _ kC2kC1kAkC0RK.out (fun hHeld => ?_)
        clear hK K hHeld
        try simp only [Act.put, List.setIfInBounds_toArray, List.set]
        refine wpAnyH_take (i := 5) (oi := _) (v := ?_) (by (simp only [List.getElem?_toArray]; rfl)) (by kernel_rfl) (by kernel_rfl) (by kernel_rfl) (by exact fun _ _ _ h => h) (Or.inl ⟨by rfl, ?_⟩) (by assumption) ?_
        rotate_left
        · intro wS hSw
          go_simp
          all_goals first | with_reducible rfl | rw [if_neg (by omega)]
        simp only [Act.put, List.setIfInBounds_toArray, List.set]
        refine wpAnyH_take (i := 6) (oi := _) (v := ?_) (by (simp only [List.getElem?_toArray]; rfl)) (by kernel_rfl) (by kernel_rfl) (by kernel_rfl) (by exact fun _ _ _ h => h) (Or.inl ⟨by rfl, ?_⟩) (by assumption) ?_
        rotate_left
        · intro wS hSw
          go_simp
          all_goals first | with_reducible rfl | rw [if_neg (by omega)]
        simp only [Act.put, List.setIfInBounds_toArray, List.set]
        refine wpAnyH_take (i := 7) (oi := _) (v := ?_) (by (simp only [List.getElem?_toArray]; rfl)) (by kernel_rfl) (by kernel_rfl) (by kernel_rfl) (by exact fun _ _ _ h => h) (Or.inl ⟨by rfl, ?_⟩) (by assumption) ?_
        rotate_left
        · intro wS hSw
          go_simp
          all_goals first | with_reducible rfl | rw [if_neg (by omega)]
        simp only [Act.put, List.setIfInBounds_toArray, List.set]
        refine wpAnyH_ready (rs := [9]) (by kernel_rfl) (by simp) ?_
        refine AllReadyH.cons (o := _) (by (simp only [List.getElem?_toArray]; rfl)) (fun K hK => ?_) AllReadyH.nil
        have cv := cell_of_block hv
        have fv := unfrozen_of_block hv
        go_simp
        have kSkC2kC1kAkC0RK := Lib.hid (KeptB.set (p := ⟨wkC0RK.heap.size, 2, none⟩) hvx (.slice b2 y.la.length y.la.length) (KeptB.set (p := ⟨wkC0RK.heap.size, 1, none⟩) hvx (.slice b1 y.fl.length y.fl.length) (KeptB.set (p := ⟨wkC0RK.heap.size, 0, none⟩) hvx (.slice b0 y.es.length y.es.length) kC2kC1kAkC0RK.out)))
        replace r0 := ((r0.setNe (p := ⟨wkC0RK.heap.size, 0, none⟩) hvn0 (.slice b0 y.es.length y.es.length)).setNe (p := ⟨wkC0RK.heap.size, 1, none⟩) hvn0 (.slice b1 y.fl.length y.fl.length)).setNe (p := ⟨wkC0RK.heap.size, 2, none⟩) hvn0 (.slice b2 y.la.length y.la.length)
        replace r1 := ((r1.setNe (p := ⟨wkC0RK.heap.size, 0, none⟩) hvn1 (.slice b0 y.es.length y.es.length)).setNe (p := ⟨wkC0RK.heap.size, 1, none⟩) hvn1 (.slice b1 y.fl.length y.fl.length)).setNe (p := ⟨wkC0RK.heap.size, 2, none⟩) hvn1 (.slice b2 y.la.length y.la.length)
        replace r2 := ((r2.setNe (p := ⟨wkC0RK.heap.size, 0, none⟩) hvn2 (.slice b0 y.es.length y.es.length)).setNe (p := ⟨wkC0RK.heap.size, 1, none⟩) hvn2 (.slice b1 y.fl.length y.fl.length)).setNe (p := ⟨wkC0RK.heap.size, 2, none⟩) hvn2 (.slice b2 y.la.length y.la.length)
        replace hv := block_setCell (i := 2) (block_setCell (i := 1) (block_setCell (i := 0) hv (.slice b0 y.es.length y.es.length)) (.slice b1 y.fl.length y.fl.length)) (.slice b2 y.la.length y.la.length)
        clear cv fv
        refine hK.out _ _ kSkC2kC1kAkC0RK.out (fun hHeld => ?_)
        clear hK K hHeld
        try simp only [Act.put, List.setIfInBounds_toArray, List.set]
        refine wpAnyH_take (i := 10) (oi := _) (v := ?_) (by (simp only [List.getElem?_toArray]; rfl)) (by kernel_rfl) (by kernel_rfl) (by kernel_rfl) (by exact fun _ _ _ h => h) (Or.inl ⟨by rfl, ?_⟩) (by assumption) ?_
        rotate_left
        · intro wS hSw
          go_simp
          all_goals first | with_reducible rfl | rw [if_neg (by omega)]
        simp only [Act.put, List.setIfInBounds_toArray, List.set]
        refine hfin ⟨(.agg #[.slice (some ⟨gc0, 0, none⟩) z.es.length z.es.length, .slice (some ⟨gc1, 0, none⟩) z.fl.length z.fl.length, .slice (some ⟨gc2, 0, none⟩) z.la.length z.la.length]), undef, undef, b0, b1, b2, 0, 0, 0, wkC0RK.heap.size⟩ _ _ _ (by kernel_rfl) ?_ ⟨kSkC2kC1kAkC0RK.out, hv, hvx, r0, r1, r2, hvn0, hvn1, hvn2, p01, p02, p12⟩
        simp only [List.setIfInBounds_toArray, List.set]
      exact AllReadyH.nil
    refine AllReadyH.cons (o := _) (by (simp only [List.getElem?_toArray]; rfl)) (fun K hK => ?_) ?_
    · skip
      refine step_alloc (by rfl) (by rfl) (z := .agg #[.slice none 0 0, .slice none 0 0, .slice none 0 0]) (cs := #[.slice none 0 0, .slice none 0 0, .slice none 0 0]) (by kernel_rfl) rfl ?_
      obtain ⟨wARK, hw', sw', hv, kw'⟩ := blocks1 wd (.cells #[.slice none 0 0, .slice none 0 0, .slice none 0 0] 46)
      rw [← hw']
      clear hw' sw'
      have kARK := Lib.hid (KeptB.next (Nat.le_refl _) RK.out kw')
      have hvx : w16.heap.size ≤ wd.heap.size := RK.out.2.size
      clear kw'
      refine hK.out _ _ kARK.out (fun hHeld => ?_)
      clear hK K hHeld
      try simp only [Act.put, List.setIfInBounds_toArray, List.set]
      refine wpAnyH_ready (rs := [1]) (by kernel_rfl) (by simp) ?_
      refine AllReadyH.cons (o := _) (by (simp only [List.getElem?_toArray]; rfl)) (fun K hK => ?_) AllReadyH.nil
      go_simp
      refine (toGame_b z _ _ _ _ _ _ _ (S0.out.below (below_next KK.out kARK.out.2)) (S1.out.below (below_next KK.out kARK.out.2)) (S2.out.below (below_next KK.out kARK.out.2)) hz0 hz1 hz2).mono ?_
      rintro e wkC0kARK ⟨gc0, gc1, gc2, rfl, q0, q1, q2, hg0, hg1, hg2, kk⟩
      have kC0kARK := Lib.hid (KeptB.next (Nat.le_refl _) kARK.out kk)
      replace hv := carryN kk hv
      clear kk
      refine hK.out _ _ kC0kARK.out (fun hHeld => ?_)
      clear hK K hHeld
      try simp only [Act.put, List.setIfInBounds_toArray, List.set]
      refine wpAnyH_ready (rs := [3]) (by kernel_rfl) (by simp) ?_
      refine AllReadyH.cons (o := _) (by (simp only [List.getElem?_toArray]; rfl)) (fun K hK => ?_) AllReadyH.nil
      go_simp
      refine (toReq_c r.c r.n r.o r.x r.y _).mono ?_
      rintro e wkC1kC0kARK ⟨rfl, kk⟩
      replace q0 := carryN kk q0
      replace q1 := carryN kk q1
      replace q2 := carryN kk q2
      have kC1kC0kARK := Lib.hid (KeptB.next (Nat.le_refl _) kC0kARK.out kk)
      replace hv := carryN kk hv
      clear kk
      refine hK.out _ _ kC1kC0kARK.out (fun hHeld => ?_)
      clear hK K hHeld
      try simp only [Act.put, List.setIfInBounds_toArray, List.set]
      refine wpAnyH_ready (rs := [4]) (by kernel_rfl) (by simp) ?_
      refine AllReadyH.cons (o := _) (by (simp only [List.getElem?_toArray]; rfl)) (fun K hK => ?_) AllReadyH.nil
      go_simp
      refine (CI.out _ _ _ _ _ _ _ (sl_of_block five_len q0 rfl hz0) (sl_of_block int_len q1 rfl hz1) (sl_of_block int_len q2 rfl hz2) hs).mono ?_
      rintro e wkC2kC1kC0kARK ⟨b0, b1, b2, rfl, r0, r1, r2, p01, p02, p12, kk⟩
      have hvn0 : ∀ g, rowBlk b0 y.es.length = some g → g ≠ wd.heap.size := fun g hg => by have := (r0.blk hg).1; have := lt_of_block hv; omega
      have hvn1 : ∀ g, rowBlk b1 y.fl.length = some g → g ≠ wd.heap.size := fun g hg => by have := (r1.blk hg).1; have := lt_of_block hv; omega
      have hvn2 : ∀ g, rowBlk b2 y.la.length = some g → g ≠ wd.heap.size := fun g hg => by have := (r2.blk hg).1; have := lt_of_block hv; omega
      replace r0 := r0.low kC1kC0kARK.out.2.size
      replace r1 := r1.low kC1kC0kARK.out.2.size
      replace r2 := r2.low kC1kC0kARK.out.2.size
      have kC2kC1kC0kARK := Lib.hid (KeptB.next (Nat.le_refl _) kC1kC0kARK.out kk)
      replace hv := carryN kk hv
      clear kk
      refine hK.out _ _ kC2kC1kC0kARK.out (fun hHeld => ?_)
      clear hK K hHeld
      try simp only [Act.put, List.setIfInBounds_toArray, List.set]
      refine wpAnyH_take (i := 5) (oi := _) (v := ?_) (by (simp only [List.getElem?_toArray]; rfl)) (by kernel_rfl) (by kernel_rfl) (by kernel_rfl) (by exact fun _ _ _ h => h) (Or.inl ⟨by rfl, ?_⟩) (by assumption) ?_
      rotate_left
      · intro wS hSw
        go_simp
        all_goals first | with_reducible rfl | rw [if_neg (by omega)]
      simp only [Act.put, List.setIfInBounds_toArray, List.set]
      refine wpAnyH_take (i := 6) (oi := _) (v := ?_) (by (simp only [List.getElem?_toArray]; rfl)) (by kernel_rfl) (by kernel_rfl) (by kernel_rfl) (by exact fun _ _ _ h => h) (Or.inl ⟨by rfl, ?_⟩) (by assumption) ?_
      rotate_left
      · intro wS hSw
        go_simp
        all_goals first | with_reducible rfl | rw [if_neg (by omega)]
      simp only [Act.put, List.setIfInBounds_toArray, List.set]
      refine wpAnyH_take (i := 7) (oi := _) (v := ?_) (by (simp only [List.getElem?_toArray]; rfl)) (by kernel_rfl) (by kernel_rfl) (by kernel_rfl) (by exact fun _ _ _ h => h) (Or.inl ⟨by rfl, ?_⟩) (by assumption) ?_
      rotate_left
      · intro wS hSw
        go_simp
        all_goals first | with_reducible rfl | rw [if_neg (by omega)]
      simp only [Act.put, List.setIfInBounds_toArray, List.set]
      refine wpAnyH_ready (rs := [9]) (by kernel_rfl) (by simp) ?_
      refine AllReadyH.cons (o := _) (by (simp only [List.getElem?_toArray]; rfl)) (fun K hK => ?_) AllReadyH.nil
      have cv := cell_of_block hv
      have fv := unfrozen_of_block hv
      go_simp
      have kSkC2kC1kC0kARK := Lib.hid (KeptB.set (p := ⟨wd.heap.size, 2, none⟩) hvx (.slice b2 y.la.length y.la.length) (KeptB.set (p := ⟨wd.heap.size, 1, none⟩) hvx (.slice b1 y.fl.length y.fl.length) (KeptB.set (p := ⟨wd.heap.size, 0, none⟩) hvx (.slice b0 y.es.length y.es.length) kC2kC1kC0kARK.out)))
      replace r0 := ((r0.setNe (p := ⟨wd.heap.size, 0, none⟩) hvn0 (.slice b0 y.es.length y.es.length)).setNe (p := ⟨wd.heap.size, 1, none⟩) hvn0 (.slice b1 y.fl.length y.fl.length)).setNe (p := ⟨wd.heap.size, 2, none⟩) hvn0 (.slice b2 y.la.length y.la.length)
      replace r1 := ((r1.setNe (p := ⟨wd.heap.size, 0, none⟩) hvn1 (.slice b0 y.es.length y.es.length)).setNe (p := ⟨wd.heap.size, 1, none⟩) hvn1 (.slice b1 y.fl.length y.fl.length)).setNe (p := ⟨wd.heap.size, 2, none⟩) hvn1 (.slice b2 y.la.length y.la.length)
      replace r2 := ((r2.setNe (p := ⟨wd.heap.size, 0, none⟩) hvn2 (.slice b0 y.es.length y.es.length)).setNe (p := ⟨wd.heap.size, 1, none⟩) hvn2 (.slice b1 y.fl.length y.fl.length)).setNe (p := ⟨wd.heap.size, 2, none⟩) hvn2 (.slice b2 y.la.length y.la.length)
      replace hv := block_setCell (i := 2) (block_setCell (i := 1) (block_setCell (i := 0) hv (.slice b0 y.es.length y.es.length)) (.slice b1 y.fl.length y.fl.length)) (.slice b2 y.la.length y.la.length)
      clear cv fv
      refine hK.out _ _ kSkC2kC1kC0kARK.out (fun hHeld => ?_)
      clear hK K hHeld
      try simp only [Act.put, List.setIfInBounds_toArray, List.set]
      refine wpAnyH_take (i := 10) (oi := _) (v := ?_) (by (simp only [List.getElem?_toArray]; rfl)) (by kernel_rfl) (by kernel_rfl) (by kernel_rfl) (by exact fun _ _ _ h => h) (Or.inl ⟨by rfl, ?_⟩) (by assumption) ?_
      rotate_left
      · intro wS hSw
        go_simp
        all_goals first | with_reducible rfl | rw [if_neg (by omega)]
      simp only [Act.put, List.setIfInBounds_toArray, List.set]
      refine hfin ⟨(.agg #[.slice (some ⟨gc0, 0, none⟩) z.es.length z.es.length, .slice (some ⟨gc1, 0, none⟩) z.fl.length z.fl.length, .slice (some ⟨gc2, 0, none⟩) z.la.length z.la.length]), undef, undef, b0, b1, b2, 0, 0, 0, wd.heap.size⟩ _ _ _ (by kernel_rfl) ?_ ⟨kSkC2kC1kC0kARK.out, hv, hvx, r0, r1, r2, hvn0, hvn1, hvn2, p01, p02, p12⟩
      simp only [List.setIfInBounds_toArray, List.set]
    exact AllReadyH.nil
  rintro ⟨Nv0, Nv1, Nv2, Nb0, Nb1, Nb2, Nd0, Nd1, Nd2, Nx⟩ w17 ⟨k9, NB, hxN, N0, N1, N2, NN0, NN1, NN2, NP01, NP02, NP12⟩
  simp only at k9 NB hxN N0 N1 N2 NN0 NN1 NN2 NP01 NP02 NP12 ⊢
  simp only [List.setIfInBounds_toArray, List.set]
  refine wpAnyH_done (by kernel_rfl) ?_ _
  clear caW laW cbW lbW cQB lQB cXB lXB cPB lPB
  replace aW := Lib.hid (carryN k9.2 aW.out)
  replace bW := Lib.hid (carryN k9.2 bW.out)
  replace QB := Lib.hid (carryN k9.2 QB.out)
  replace XB := Lib.hid (carryN k9.2 XB.out)
  replace PB := Lib.hid (carryN k9.2 PB.out)
  replace Q0 := Lib.hid (Q0.out.below k9.2)
  replace Q1 := Lib.hid (Q1.out.below k9.2)
  replace Q2 := Lib.hid (Q2.out.below k9.2)
  replace mP0 := Lib.hid (mP0.out.below k9.2)
  replace mP1 := Lib.hid (mP1.out.below k9.2)
  replace mP2 := Lib.hid (mP2.out.below k9.2)
  replace KK := Lib.hid (below_next KK.out k9.2)
  clear k9
  replace NB := Lib.hid NB
  replace N0 := Lib.hid N0
  replace N1 := Lib.hid N1
  replace N2 := Lib.hid N2
  replace NN0 := Lib.hid NN0
  replace NN1 := Lib.hid NN1
  replace NN2 := Lib.hid NN2
  replace NP01 := Lib.hid NP01
  replace NP02 := Lib.hid NP02
  replace NP12 := Lib.hid NP12
  have caW := cell_of_block aW.out
  have laW := lt_of_block aW.out
  have cbW := cell_of_block bW.out
  have lbW := lt_of_block bW.out
  have cQB := cell_of_block QB.out
  have lQB := lt_of_block QB.out
  have cXB := cell_of_block XB.out
  have lXB := lt_of_block XB.out
  have cPB := cell_of_block PB.out
  have lPB := lt_of_block PB.out
  have cNB := cell_of_block NB.out
  have lNB := lt_of_block NB.out
  go_wp2_with fail
  refine (eqGame_c y _ _ _ _ _ _ _ _ _ _ _ _ _ (N0.out.sl five_len) (N1.out.sl int_len) (N2.out.sl int_len) (Q0.out.sl five_len) (Q1.out.sl int_len) (Q2.out.sl int_len)).mono ?_
  rintro e w18 ⟨rfl, kk⟩
  clear caW laW cbW lbW cQB lQB cXB lXB cPB lPB cNB lNB
  replace aW := Lib.hid (carryN kk aW.out)
  replace bW := Lib.hid (carryN kk bW.out)
  replace QB := Lib.hid (carryN kk QB.out)
  replace XB := Lib.hid (carryN kk XB.out)
  replace PB := Lib.hid (carryN kk PB.out)
  replace NB := Lib.hid (carryN kk NB.out)
  replace Q0 := Lib.hid (Q0.out.below kk)
  replace Q1 := Lib.hid (Q1.out.below kk)
  replace Q2 := Lib.hid (Q2.out.below kk)
  replace N0 := Lib.hid (N0.out.below kk)
  replace N1 := Lib.hid (N1.out.below kk)
  replace N2 := Lib.hid (N2.out.below kk)
  replace mP0 := Lib.hid (mP0.out.below kk)
  replace mP1 := Lib.hid (mP1.out.below kk)
  replace mP2 := Lib.hid (mP2.out.below kk)
  replace KK := Lib.hid (below_next KK.out kk)
  clear kk
  have caW := cell_of_block aW.out
  have laW := lt_of_block aW.out
  have cbW := cell_of_block bW.out
  have lbW := lt_of_block bW.out
  have cQB := cell_of_block QB.out
  have lQB := lt_of_block QB.out
  have cXB := cell_of_block XB.out
  have lXB := lt_of_block XB.out
  have cPB := cell_of_block PB.out
  have lPB := lt_of_block PB.out
  have cNB := cell_of_block NB.out
  have lNB := lt_of_block NB.out
  go_wp2_with fail
  refine (heldGame_r 1 _ P0.out P1.out P2.out rfl rfl rfl mP0.out mP1.out mP2.out (by omega) (by omega) (by omega) (by omega) (by omega)).mono ?_
  rintro e w19 ⟨rfl, kk⟩
  clear caW laW cbW lbW cQB lQB cXB lXB cPB lPB cNB lNB
  replace aW := Lib.hid (carryN kk aW.out)
  replace bW := Lib.hid (carryN kk bW.out)
  replace QB := Lib.hid (carryN kk QB.out)
  replace XB := Lib.hid (carryN kk XB.out)
  replace PB := Lib.hid (carryN kk PB.out)
  replace NB := Lib.hid (carryN kk NB.out)
  replace Q0 := Lib.hid (Q0.out.below kk)
  replace Q1 := Lib.hid (Q1.out.below kk)
  replace Q2 := Lib.hid (Q2.out.below kk)
  replace N0 := Lib.hid (N0.out.below kk)
  replace N1 := Lib.hid (N1.out.below kk)
  replace N2 := Lib.hid (N2.out.below kk)
  replace mP0 := Lib.hid (mP0.out.below kk)
  replace mP1 := Lib.hid (mP1.out.below kk)
  replace mP2 := Lib.hid (mP2.out.below kk)
  replace KK := Lib.hid (below_next KK.out kk)
  clear kk
  go_wp2_with fail
  go_ret
  exact ⟨rfl, KK.out⟩
end Go.Proofs.Ytofedboeggdkaaa
