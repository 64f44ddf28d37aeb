/- Contract of the program's LedgerAdd; condition: the package variables as listed. -/
import Derived.Test.YtbfnilfkhonpaaaDoorLedOfI
import Derived.Test.YtbfnilfkhonpaaaDoorPutL
namespace Go.Proofs.YtbfnilfkhonpaaaDoor
open Go.RowKit Go.Joins

/-- One more row, and whether it was added. -/
def addL (xs : List En) (r : Rq) : List En × Bool := if far xs = xs.length ∧ xs.length < 60 ∧ good r = true then (xs ++ [⟨r, sumL (lastSum xs) ((xs.length : Int) + 1) r⟩], true) else (xs, false)
def AddOwn (zs : List En) (b : Bool) (w : World) (e : Ending) (w' : World) : Prop :=
  ∃ (a' : Option Addr), e = .returned (.tuple #[.slice a' zs.length zs.length, .bool b]) ∧ Row w' w.heap.size 44 a' zs.length 6 En.cs zs ∧ Below w.heap.size w w'
theorem addL_no {xs : List En} {r : Rq} (h : ¬ far xs = xs.length ∨ 60 ≤ xs.length ∨ good r = false) : addL xs r = (xs, false) := by
  unfold addL
  rw [if_neg]
  rintro ⟨h1, h2, h3⟩
  rcases h with h | h | h
  · exact h h1
  · omega
  · rw [h] at h3; cases h3
theorem lastSum_far {xs : List En} (h : far xs = xs.length) : 0 ≤ lastSum xs ∧ lastSum xs < 4294967296 := prevAt_bounds (fun j hj => (far_is xs).2.1 j (by omega))

set_option maxRecDepth 100000 in
set_option maxHeartbeats 8000000 in
theorem LedgerAdd_c (a : Option Addr) (n cap : Nat) (xs : List En) (r : Rq) (w : World) (E : Env w) (h : IsSl w (.slice a n cap) 6 En.cs xs) (hn : n ≤ 1048576) :
    Calls Tryd.prog 35 #[.slice a n cap, .agg #[.int .i64 r.c, .int .i64 r.n, .int .i64 r.o, .int .i64 r.x, .int .i64 r.y]] w (AddOwn (addL xs r).1 (addL xs r).2 w) := by
  obtain ⟨hzl, hlc, hm, hr⟩ := h.bounds
  have HH := Lib.hid h
  have EE := Lib.hid E
  have HZ := Lib.hid hzl
  have h60 := far_le60 xs
  clear hr h E
  unfold maxLen at hm
  by_cases hf : far xs = n
  · have hn60 : n ≤ 60 := by omega
    have HFA := Lib.hid hf
    clear h60
    have CG := Lib.hid (fun V E h => by have := ledger_c a n cap xs V E h (by omega); rw [decide_eq_true hf] at this; exact this)
    clear hf
    by_cases h6 : n = 60
    · have HP := Lib.hid (addL_no (xs := xs) (r := r) (.inr (.inl (by omega))))
      subst h6
      rw [HP.out]
      clear hzl hn60
      go_enter Tryd.func35, Tryd.ntmps35
      go_wp2_with fail
      obtain ⟨W, hW, sW, aW, kW⟩ := blocks1 w (.cells #[.int .i64 r.c, .int .i64 r.n, .int .i64 r.o, .int .i64 r.x, .int .i64 r.y] 42)
      rw [← hW]
      clear hW
      refine (CG.out W (EE.out.below kW) (HH.out.below kW)).mono ?_
      rintro e w1 ⟨rfl, k1⟩
      have K1 := below_next kW k1
      clear aW
      go_wp2_with fail
      refine (cloneEntry_c a _ cap xs w1 (HH.out.below K1) (by omega)).mono ?_
      rintro e w2 ⟨a', rfl, r2, k2⟩
      have HR2 := Lib.hid (r2.low K1.size)
      have K2 := below_next K1 k2
      clear r2 k2
      go_wp2_with fail
      refine bodyPost_ret (v := .tuple #[.slice a' 60 60, .bool false]) (by simp [results, Tryd.results35, go_sem]) rfl ?_
      have hr2 := HR2.out
      rw [← HZ.out] at hr2 ⊢
      exact ⟨a', rfl, hr2, K2⟩
    · have hlt : n < 60 := by omega
      have h6d : ((n : Int) == 60) = false := by simp; omega
      have HLT := Lib.hid hlt
      clear h6 hzl
      cases hg : good r with
      | false =>
        have HP := Lib.hid (addL_no (xs := xs) (r := r) (.inr (.inr hg)))
        have CO := Lib.hid (fun V => by have := okOrNull_c r.c r.n r.o r.x r.y V; rw [show goodB r.c r.n r.o r.x r.y = false from hg] at this; exact this)
        rw [HP.out]
        clear hg
        go_enter Tryd.func35, Tryd.ntmps35
        go_wp2_with fail
        obtain ⟨W, hW, sW, aW, kW⟩ := blocks1 w (.cells #[.int .i64 r.c, .int .i64 r.n, .int .i64 r.o, .int .i64 r.x, .int .i64 r.y] 42)
        rw [← hW]
        clear hW
        refine (CG.out W (EE.out.below kW) (HH.out.below kW)).mono ?_
        rintro e w1 ⟨rfl, k1⟩
        have K1 := below_next kW k1
        have a1 := carryB k1 (by omega) aW
        have c1 := cell_of_block a1
        clear aW kW k1
        go_wp2_with fail
        refine (CO.out w1).mono ?_
        rintro e w2 ⟨rfl, k2⟩
        have K2 := below_next K1 k2
        clear k2 K1 c1 a1
        go_wp2_with fail
        refine (cloneEntry_c a n cap xs w2 (HH.out.below K2) (by omega)).mono ?_
        rintro e w3 ⟨a', rfl, r3, k3⟩
        have HR3 := Lib.hid (r3.low K2.size)
        have K3 := below_next K2 k3
        clear r3 k3
        go_wp2_with fail
        refine bodyPost_ret (v := .tuple #[.slice a' n n, .bool false]) (by simp [results, Tryd.results35, go_sem]) rfl ?_
        have hr3 := HR3.out
        rw [← HZ.out] at hr3 ⊢
        exact ⟨a', rfl, hr3, K3⟩
      | true =>
        have hP : addL xs r = (xs ++ [⟨r, sumL (lastSum xs) ((n : Int) + 1) r⟩], true) := by
          unfold addL
          rw [if_pos ⟨HFA.out.trans HZ.out.symm, by rw [HZ.out]; exact hlt, hg⟩, HZ.out]
        have HP := Lib.hid hP
        have CO := Lib.hid (fun V => by have := okOrNull_c r.c r.n r.o r.x r.y V; rw [show goodB r.c r.n r.o r.x r.y = true from hg] at this; exact this)
        have HLS := Lib.hid (lastSum_far (HFA.out.trans HZ.out.symm))
        clear hg hP
        go_enter Tryd.func35, Tryd.ntmps35
        go_wp2_with fail
        obtain ⟨W, hW, sW, aW, kW⟩ := blocks1 w (.cells #[.int .i64 r.c, .int .i64 r.n, .int .i64 r.o, .int .i64 r.x, .int .i64 r.y] 42)
        rw [← hW]
        clear hW
        refine (CG.out W (EE.out.below kW) (HH.out.below kW)).mono ?_
        rintro e w1 ⟨rfl, k1⟩
        have K1 := below_next kW k1
        have a1 := carryB k1 (by omega) aW
        have c1 := cell_of_block a1
        clear aW kW k1
        go_wp2_with fail
        refine (CO.out w1).mono ?_
        rintro e w2 ⟨rfl, k2⟩
        have K2 := below_next K1 k2
        have a2 := carryB k2 (lt_of_block a1) a1
        clear k2 K1 c1 a1
        go_wp2_with fail
        have l2 : w.heap.size < w2.drew.heap.size := lt_of_block a2
        have hcd := cell_of_block (show w2.drew.heap[w.heap.size]? = _ from a2)
        have KD := below_next K2 (Below.drew (Below.refl w2.heap.size w2))
        have A2 := Lib.hid (show w2.drew.heap[w.heap.size]? = _ from a2)
        refine wp_region_held_drew (S := fun w' => ∀ i, w'.cell? ⟨w.heap.size, i, none⟩ = (#[.int .i64 r.c, .int .i64 r.n, .int .i64 r.o, .int .i64 r.x, .int .i64 r.y] : Array Value)[i]?) (by kernel_rfl) hcd (fun hHeld => ?_)
        clear hcd a2 K2
        refine wpAnyH_take (i := 0) (oi := _) (v := ?_) (by (simp only [List.getElem?_toArray]; rfl)) (by kernel_rfl) (by kernel_rfl) (by kernel_rfl) (by exact fun _ _ _ h => h) (Or.inl ⟨by rfl, ?_⟩) (by assumption) ?_
        rotate_left
        · intro wS hSw
          go_simp
          all_goals first | with_reducible rfl | rw [if_neg (by omega)]
        simp only [Act.put, List.setIfInBounds_toArray, List.set]
        refine wpAnyH_take (i := 2) (oi := _) (v := ?_) (by (simp only [List.getElem?_toArray]; rfl)) (by kernel_rfl) (by kernel_rfl) (by kernel_rfl) (by exact fun _ _ _ h => h) (Or.inl ⟨by rfl, ?_⟩) (by assumption) ?_
        rotate_left
        · intro wS hSw
          go_simp
          all_goals first | with_reducible rfl | rw [if_neg (by omega)]
        simp only [Act.put, List.setIfInBounds_toArray, List.set]
        refine wpAnyH_take (i := 3) (oi := _) (v := ?_) (by (simp only [List.getElem?_toArray]; rfl)) (by kernel_rfl) (by kernel_rfl) (by kernel_rfl) (by exact fun _ _ _ h => h) (Or.inl ⟨by rfl, ?_⟩) (by assumption) ?_
        rotate_left
        · intro wS hSw
          go_simp
          all_goals first | with_reducible rfl | rw [if_neg (by omega)]
        simp only [Act.put, List.setIfInBounds_toArray, List.set]
        refine wpAnyH_take (i := 4) (oi := _) (v := ?_) (by (simp only [List.getElem?_toArray]; rfl)) (by kernel_rfl) (by kernel_rfl) (by kernel_rfl) (by exact fun _ _ _ h => h) (Or.inl ⟨by rfl, ?_⟩) (by assumption) ?_
        rotate_left
        · intro wS hSw
          go_simp
          all_goals first | with_reducible rfl | rw [if_neg (by omega)]
        simp only [Act.put, List.setIfInBounds_toArray, List.set]
        refine wpAnyH_ready (rs := [1]) (by kernel_rfl) (by simp) ?_
        refine AllReadyH.cons (o := _) (by (simp only [List.getElem?_toArray]; rfl)) (fun K hK => ?_) AllReadyH.nil
        go_simp
        refine (cloneEntry_c a n cap xs w2.drew (HH.out.below KD) (by omega)).mono ?_
        rintro e w3 ⟨aC, rfl, rC, k3⟩
        have h3 : ∀ i, w3.cell? ⟨w.heap.size, i, none⟩ = (#[.int .i64 r.c, .int .i64 r.n, .int .i64 r.o, .int .i64 r.x, .int .i64 r.y] : Array Value)[i]? := fun i => ((bcell k3).1 _ i l2).trans (hHeld i)
        have A3 := Lib.hid (carryB k3 l2 A2.out)
        have K3 := below_next KD k3
        have l3 : w.heap.size < w3.heap.size := Nat.lt_of_lt_of_le l2 k3.size
        have hzd : w.heap.size ≤ w2.drew.heap.size := Nat.le_of_lt l2
        have RC := Lib.hid (rC.low (B' := w.heap.size + 1) l2)
        clear rC k3 hHeld KD
        refine hK.out _ _ h3 (fun hHeld => ?_)
        clear hK K
        try simp only [Act.put, List.setIfInBounds_toArray, List.set]
        refine wpAnyH_ready (rs := [5]) (by kernel_rfl) (by simp) ?_
        refine AllReadyH.cons (o := _) (by (simp only [List.getElem?_toArray]; rfl)) (fun K hK => ?_) AllReadyH.nil
        go_simp
        refine (link_c a n cap xs r w3 (EE.out.below K3) (HH.out.below K3) (by omega) HLS.out.1 (by have := HLS.out.2; omega)).mono ?_
        rintro e w4 ⟨rfl, k4⟩
        have h4 : ∀ i, w4.cell? ⟨w.heap.size, i, none⟩ = (#[.int .i64 r.c, .int .i64 r.n, .int .i64 r.o, .int .i64 r.x, .int .i64 r.y] : Array Value)[i]? := fun i => ((bcell k4).1 _ i l3).trans (h3 i)
        have A4 := Lib.hid (carryB k4 l3 A3.out)
        have K4 := below_next K3 k4
        have l4 : w.heap.size < w4.heap.size := Nat.lt_of_lt_of_le l3 k4.size
        replace RC := Lib.hid (RC.out.below k4)
        obtain ⟨sm, hsm⟩ : ∃ sm : Int, sm = (sumL (lastSum xs) ((n : Int) + 1) r : Int) := ⟨_, rfl⟩
        have HSM := Lib.hid hsm
        rw [← hsm]
        clear hsm k4 hHeld K3 h3
        refine hK.out _ _ h4 (fun hHeld => ?_)
        clear hK K
        try simp only [Act.put, List.setIfInBounds_toArray, List.set]
        refine wpAnyH_take (i := 6) (oi := _) (v := ?_) (by (simp only [List.getElem?_toArray]; rfl)) (by kernel_rfl) (by kernel_rfl) (by kernel_rfl) (by exact fun _ _ _ h => h) (Or.inl ⟨by rfl, ?_⟩) (by assumption) ?_
        rotate_left
        · intro wS hSw
          go_simp
          all_goals first | with_reducible rfl | rw [if_neg (by omega)]
        simp only [Act.put, List.setIfInBounds_toArray, List.set]
        refine wpAnyH_ready (rs := [7]) (by kernel_rfl) (by simp) ?_
        refine AllReadyH.cons (o := _) (by (simp only [List.getElem?_toArray]; rfl)) (fun K hK => ?_) AllReadyH.nil
        go_simp
        obtain ⟨V, hV, sV, aV, kV⟩ := blocks1 w4 (.cells #[.int .i64 r.c, .int .i64 r.n, .int .i64 r.o, .int .i64 r.x, .int .i64 r.y, .int .i64 sm] 44)
        have hrv : RowsAt V (some ⟨w4.heap.size, 0, none⟩) 6 En.cs [⟨r, sm⟩] := by rw [hV]; exact rowsAt_oneE w4 ⟨r, sm⟩ _
        rw [← hV]
        have h5 : ∀ i, V.cell? ⟨w.heap.size, i, none⟩ = (#[.int .i64 r.c, .int .i64 r.n, .int .i64 r.o, .int .i64 r.x, .int .i64 r.y] : Array Value)[i]? := fun i => ((bcell kV).1 _ i l4).trans (h4 i)
        have A5 := Lib.hid (carryB kV l4 A4.out)
        have KV := below_next K4 kV
        have lV : w.heap.size < V.heap.size := by omega
        replace RC := Lib.hid (RC.out.below kV)
        have HRV := Lib.hid hrv
        clear hV kV aV hrv K4 h4 hHeld
        refine hK.out _ _ h5 (fun hHeld => ?_)
        clear hK K
        try simp only [Act.put, List.setIfInBounds_toArray, List.set]
        refine wpAnyH_ready (rs := [8]) (by kernel_rfl) (by simp) ?_
        refine AllReadyH.cons (o := _) (by (simp only [List.getElem?_toArray]; rfl)) (fun K hK => ?_) AllReadyH.nil
        refine step_append_elt (by rfl) (.tmp 22) (.tmp 28) (by rfl) (n + 1) eltEntry (by rfl) (by rfl) RC.out HRV.out HZ.out rfl rfl (by simp only [maxLen]; omega) (by omega) lV ?_
        intro a5 cap5 w5 q5
        have b5 := q5.grown.block w.heap.size lV (fun e => by have := (RC.out.blk e.symm).1; omega)
        have h6 : ∀ i, w5.cell? ⟨w.heap.size, i, none⟩ = (#[.int .i64 r.c, .int .i64 r.n, .int .i64 r.o, .int .i64 r.x, .int .i64 r.y] : Array Value)[i]? := cell_of_block (b5.trans A5.out)
        have A6 := Lib.hid (b5.trans A5.out)
        have K5 := q5.belowB RC.out KV (by omega) (Nat.le_of_lt lV)
        have l5 : w.heap.size < w5.heap.size := Nat.lt_of_lt_of_le lV q5.grown.size
        have hl5 : (xs ++ [(⟨r, sm⟩ : En)]).length = n + 1 := by rw [List.length_append, HZ.out]; rfl
        have HL5 := Lib.hid hl5
        have IS5 := Lib.hid (q5.row.slE six_len hl5)
        clear b5 q5 hl5 KV hHeld h5
        refine hK.out _ _ h6 (fun hHeld => ?_)
        clear hK K
        try simp only [Act.put, List.setIfInBounds_toArray, List.set]
        refine wpAnyH_ready (rs := [9]) (by kernel_rfl) (by simp) ?_
        refine AllReadyH.cons (o := _) (by (simp only [List.getElem?_toArray]; rfl)) (fun K hK => ?_) AllReadyH.nil
        go_simp
        refine (cloneEntry_c a5 (n + 1) cap5 (xs ++ [⟨r, sm⟩]) w5 IS5.out (by omega)).mono ?_
        rintro e w6 ⟨a6, rfl, r6, k6⟩
        have h7 : ∀ i, w6.cell? ⟨w.heap.size, i, none⟩ = (#[.int .i64 r.c, .int .i64 r.n, .int .i64 r.o, .int .i64 r.x, .int .i64 r.y] : Array Value)[i]? := fun i => ((bcell k6).1 _ i l5).trans (h6 i)
        have K6 := below_next K5 k6
        have R6 := Lib.hid (r6.low (B' := w.heap.size) (Nat.le_of_lt l5))
        clear r6 k6 hHeld K5 h6
        refine hK.out _ _ h7 (fun hHeld => ?_)
        clear hK K
        try simp only [Act.put, List.setIfInBounds_toArray, List.set]
        refine wpAnyH_take (i := 10) (oi := _) (v := ?_) (by (simp only [List.getElem?_toArray]; rfl)) (by kernel_rfl) (by kernel_rfl) (by kernel_rfl) (by exact fun _ _ _ h => h) (Or.inl ⟨by rfl, ?_⟩) (by assumption) ?_
        rotate_left
        · intro wS hSw
          go_simp
          all_goals first | with_reducible rfl | rw [if_neg (by omega)]
        simp only [Act.put, List.setIfInBounds_toArray, List.set]
        refine wpAnyH_take (i := 11) (oi := _) (v := ?_) (by (simp only [List.getElem?_toArray]; rfl)) (by kernel_rfl) (by kernel_rfl) (by kernel_rfl) (by exact fun _ _ _ h => h) (Or.inl ⟨by rfl, ?_⟩) (by assumption) ?_
        rotate_left
        · intro wS hSw
          go_simp
          all_goals first | with_reducible rfl | rw [if_neg (by omega)]
        simp only [Act.put, List.setIfInBounds_toArray, List.set]
        refine wpAnyH_done (by kernel_rfl) ?_ _
        go_wp2_with fail
        refine bodyPost_ret (v := .tuple #[.slice a6 (n + 1) (n + 1), .bool true]) (by simp [results, Tryd.results35, go_sem]) rfl ?_
        rw [HP.out, ← HSM.out]
        have hr6 := R6.out
        unfold AddOwn
        simp only
        rw [HL5.out]
        exact ⟨a6, rfl, hr6, K6⟩
  · have HP := Lib.hid (addL_no (xs := xs) (r := r) (.inl (by rw [HZ.out]; exact hf)))
    have CG := Lib.hid (fun V E h => by have := ledger_c a n cap xs V E h (by omega); rw [decide_eq_false hf] at this; exact this)
    clear hf h60 hzl
    rw [HP.out]
    go_enter Tryd.func35, Tryd.ntmps35
    go_wp2_with fail
    obtain ⟨W, hW, sW, aW, kW⟩ := blocks1 w (.cells #[.int .i64 r.c, .int .i64 r.n, .int .i64 r.o, .int .i64 r.x, .int .i64 r.y] 42)
    rw [← hW]
    clear hW
    refine (CG.out W (EE.out.below kW) (HH.out.below kW)).mono ?_
    rintro e w1 ⟨rfl, k1⟩
    have K1 := below_next kW k1
    clear aW
    go_wp2_with fail
    refine (cloneEntry_c a n cap xs w1 (HH.out.below K1) (by omega)).mono ?_
    rintro e w2 ⟨a', rfl, r2, k2⟩
    have HR2 := Lib.hid (r2.low K1.size)
    have K2 := below_next K1 k2
    clear r2 k2
    go_wp2_with fail
    refine bodyPost_ret (v := .tuple #[.slice a' n n, .bool false]) (by simp [results, Tryd.results35, go_sem]) rfl ?_
    have hr2 := HR2.out
    rw [← HZ.out] at hr2 ⊢
    exact ⟨a', rfl, hr2, K2⟩
end Go.Proofs.YtbfnilfkhonpaaaDoor
