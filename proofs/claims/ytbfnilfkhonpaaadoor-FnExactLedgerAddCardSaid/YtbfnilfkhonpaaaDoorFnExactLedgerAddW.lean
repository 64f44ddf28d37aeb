/- The walk of FnExactLedgerAdd; condition: the package variables as listed. -/
import Derived.Test.YtbfnilfkhonpaaaDoorAddS
import Derived.Test.YtbfnilfkhonpaaaDoorFnExactLedgerOfW
namespace Go.Proofs.YtbfnilfkhonpaaaDoor
open Go.RowKit Go.Joins

theorem carryN' {w w1 : World} {b : Nat} {o : Obj} (k : Below w.heap.size w w1) (h : w.heap[b]? = some o) : w1.heap[b]? = some o := (k.block b (Array.getElem?_eq_some_iff.1 h).1).trans h
theorem addL_len (xs : List En) (r : Rq) : (addL xs r).1.length ≤ xs.length + 1 := by
  unfold addL
  split <;> simp

set_option maxRecDepth 100000 in
set_option maxHeartbeats 16000000 in
theorem fnExactLedgerAdd.walk (v0 : Value) (xs : List En) (v1 : Value) (r : Rq) (w : World) (h0 : IsSl w v0 6 En.cs xs) (h1 : IsRq v1 r) (E : Env w) :
    Calls Tryd.prog 11 #[v0, v1] w fun e w' => e = .returned (.bool true) ∧ Below w.heap.size w w' := by
  obtain ⟨a, cap, rfl, hlc, hm, hr⟩ := h0
  unfold IsRq at h1
  subst h1
  have H0 := Lib.hid (show IsSl w (.slice a xs.length cap) 6 En.cs xs from ⟨a, cap, rfl, hlc, hm, hr⟩)
  have EE := Lib.hid E
  clear hr E
  have CS := fun a n cap w h hn => sLedgerAdd_c a n cap xs r w h hn
  have CI := fun a n cap w E h hn => LedgerAdd_c a n cap xs r w E h hn
  have hy := addL_len xs r
  generalize (addL xs r).1 = zs at CS CI hy
  generalize (addL xs r).2 = bb at CS CI
  replace CS := Lib.hid CS
  replace CI := Lib.hid CI
  generalize hrn : xs.length = n at *
  have HZ := Lib.hid hrn
  clear hrn
  obtain ⟨l, hl⟩ : ∃ l, zs.length = l := ⟨_, rfl⟩
  have HL := Lib.hid hl
  rw [hl] at hy
  clear hl
  go_enter Tryd.func11, Tryd.ntmps11
  go_wp2_with fail
  obtain ⟨W, hW, sW, aW, kW⟩ := blocks1 w (.cells #[.int .i64 r.c, .int .i64 r.n, .int .i64 r.o, .int .i64 r.x, .int .i64 r.y] 51)
  rw [← hW]
  clear hW
  have BB := Lib.hid aW
  clear aW
  have sz1 := szEntryS_c a n cap 1048576 W hlc hm (by decide) (by decide)
  by_cases hs : (1048576 : Int) - n < 0
  · rw [leftNeg hs] at sz1
    refine sz1.mono ?_
    rintro e w1 ⟨rfl, rfl⟩
    go_wp2_with fail
    go_ret
    exact ⟨rfl, kW⟩
  · have hn : n ≤ 1048576 := by omega
    rw [leftPos (by omega)] at sz1
    refine sz1.mono ?_
    rintro e w1 ⟨rfl, rfl⟩
    clear sz1
    have cB := cell_of_block BB.out
    have lB := lt_of_block BB.out
    go_wp2_with fail
    have KD := below_next kW (Below.drew (Below.refl W.heap.size W))
    have hcd : ∀ i, W.drew.cell? ⟨w.heap.size, i, none⟩ = (#[.int .i64 r.c, .int .i64 r.n, .int .i64 r.o, .int .i64 r.x, .int .i64 r.y] : Array Value)[i]? := cell_of_block (show W.drew.heap[w.heap.size]? = _ from BB.out)
    have lD : w.heap.size < W.drew.heap.size := lB
    refine wp_region_held_drew (S := fun w' => ∀ i, w'.cell? ⟨w.heap.size, i, none⟩ = (#[.int .i64 r.c, .int .i64 r.n, .int .i64 r.o, .int .i64 r.x, .int .i64 r.y] : Array Value)[i]?) (by kernel_rfl) hcd (fun hHeld => ?_)
    clear hcd cB lB kW
    refine wpAnyH_take (i := 0) (oi := _) (v := ?_) (by (simp only [List.getElem?_toArray]; rfl)) (by kernel_rfl) (by kernel_rfl) (by kernel_rfl) (by exact fun _ _ _ h => h) (Or.inl ⟨by rfl, ?_⟩) (by assumption) ?_
    rotate_left
    · intro wS hSw
      go_simp
      all_goals first | with_reducible rfl | rw [if_neg (by omega)]
    simp only [Act.put, List.setIfInBounds_toArray, List.set]
    refine wpAnyH_take (i := 2) (oi := _) (v := ?_) (by (simp only [List.getElem?_toArray]; rfl)) (by kernel_rfl) (by kernel_rfl) (by kernel_rfl) (by exact fun _ _ _ h => h) (Or.inl ⟨by rfl, ?_⟩) (by assumption) ?_
    rotate_left
    · intro wS hSw
      go_simp
      all_goals first | with_reducible rfl | rw [if_neg (by omega)]
    simp only [Act.put, List.setIfInBounds_toArray, List.set]
    refine wpAnyH_ready (rs := [1]) (by kernel_rfl) (by simp) ?_
    refine AllReadyH.cons (o := _) (by (simp only [List.getElem?_toArray]; rfl)) (fun K hK => ?_) AllReadyH.nil
    go_simp
    refine (toEntryS_c _ xs W.drew (H0.out.below KD) (by rw [HZ.out]; exact hn)).mono ?_
    intro e w2 hcp
    obtain ⟨g2, rfl, i2, k2⟩ := copied_sl hcp HZ.out hn
    have h2 : ∀ i, w2.cell? ⟨w.heap.size, i, none⟩ = (#[.int .i64 r.c, .int .i64 r.n, .int .i64 r.o, .int .i64 r.x, .int .i64 r.y] : Array Value)[i]? := fun i => ((bcell k2).1 _ i lD).trans (hHeld i)
    have I2 := Lib.hid i2
    replace BB := Lib.hid (carryN' k2 (show W.drew.heap[w.heap.size]? = _ from BB.out))
    have K2 := below_next KD k2
    have l2 : w.heap.size < w2.heap.size := Nat.lt_of_lt_of_le lD k2.size
    clear hcp i2 k2 KD hHeld
    refine hK.out _ _ h2 (fun hHeld => ?_)
    clear hK K
    try simp only [Act.put, List.setIfInBounds_toArray, List.set]
    refine wpAnyH_ready (rs := [3]) (by kernel_rfl) (by simp) ?_
    refine AllReadyH.cons (o := _) (by (simp only [List.getElem?_toArray]; rfl)) (fun K hK => ?_) AllReadyH.nil
    go_simp
    refine (toReq_c r.c r.n r.o r.x r.y w2).mono ?_
    rintro e w3 ⟨rfl, k3⟩
    have h3 : ∀ i, w3.cell? ⟨w.heap.size, i, none⟩ = (#[.int .i64 r.c, .int .i64 r.n, .int .i64 r.o, .int .i64 r.x, .int .i64 r.y] : Array Value)[i]? := fun i => ((bcell k3).1 _ i l2).trans (h2 i)
    replace I2 := Lib.hid (I2.out.below k3)
    replace BB := Lib.hid (carryN' k3 BB.out)
    have K3 := below_next K2 k3
    have l3 : w.heap.size < w3.heap.size := Nat.lt_of_lt_of_le l2 k3.size
    clear k3 K2 hHeld h2
    refine hK.out _ _ h3 (fun hHeld => ?_)
    clear hK K
    try simp only [Act.put, List.setIfInBounds_toArray, List.set]
    refine wpAnyH_ready (rs := [4]) (by kernel_rfl) (by simp) ?_
    refine AllReadyH.cons (o := _) (by (simp only [List.getElem?_toArray]; rfl)) (fun K hK => ?_) AllReadyH.nil
    go_simp
    refine (CS.out _ n n w3 I2.out hn).mono ?_
    rintro e w4 ⟨aQ, cQ, rfl, rQ, k4⟩
    rw [HL.out]
    have h4 : ∀ i, w4.cell? ⟨w.heap.size, i, none⟩ = (#[.int .i64 r.c, .int .i64 r.n, .int .i64 r.o, .int .i64 r.x, .int .i64 r.y] : Array Value)[i]? := fun i => ((bcell k4).1 _ i l3).trans (h3 i)
    replace BB := Lib.hid (carryN' k4 BB.out)
    have K4 := below_next K3 k4
    have RQ := Lib.hid (rQ.low (B' := w.heap.size) K3.size)
    have QL := Lib.hid (fun g (hg : rowBlk aQ cQ = some g) => show w.heap.size < g from Nat.lt_of_lt_of_le l3 (rQ.blk hg).1)
    have l4 : w.heap.size < w4.heap.size := Nat.lt_of_lt_of_le l3 k4.size
    clear k4 K3 hHeld h3 I2 rQ
    refine hK.out _ _ h4 (fun hHeld => ?_)
    clear hK K
    try simp only [Act.put, List.setIfInBounds_toArray, List.set]
    refine wpAnyH_take (i := 5) (oi := _) (v := ?_) (by (simp only [List.getElem?_toArray]; rfl)) (by kernel_rfl) (by kernel_rfl) (by kernel_rfl) (by exact fun _ _ _ h => h) (Or.inl ⟨by rfl, ?_⟩) (by assumption) ?_
    rotate_left
    · intro wS hSw
      go_simp
      all_goals first | with_reducible rfl | rw [if_neg (by omega)]
    simp only [Act.put, List.setIfInBounds_toArray, List.set]
    refine wpAnyH_take (i := 6) (oi := _) (v := ?_) (by (simp only [List.getElem?_toArray]; rfl)) (by kernel_rfl) (by kernel_rfl) (by kernel_rfl) (by exact fun _ _ _ h => h) (Or.inl ⟨by rfl, ?_⟩) (by assumption) ?_
    rotate_left
    · intro wS hSw
      go_simp
      all_goals first | with_reducible rfl | rw [if_neg (by omega)]
    simp only [Act.put, List.setIfInBounds_toArray, List.set]
    refine wpAnyH_take (i := 7) (oi := _) (v := ?_) (by (simp only [List.getElem?_toArray]; rfl)) (by kernel_rfl) (by kernel_rfl) (by kernel_rfl) (by exact fun _ _ _ h => h) (Or.inl ⟨by rfl, ?_⟩) (by assumption) ?_
    rotate_left
    · intro wS hSw
      go_simp
      all_goals first | with_reducible rfl | rw [if_neg (by omega)]
    simp only [Act.put, List.setIfInBounds_toArray, List.set]
    refine wpAnyH_take (i := 8) (oi := _) (v := ?_) (by (simp only [List.getElem?_toArray]; rfl)) (by kernel_rfl) (by kernel_rfl) (by kernel_rfl) (by exact fun _ _ _ h => h) (Or.inl ⟨by rfl, ?_⟩) (by assumption) ?_
    rotate_left
    · intro wS hSw
      go_simp
      all_goals first | with_reducible rfl | rw [if_neg (by omega)]
    simp only [Act.put, List.setIfInBounds_toArray, List.set]
    refine wpAnyH_take (i := 9) (oi := _) (v := ?_) (by (simp only [List.getElem?_toArray]; rfl)) (by kernel_rfl) (by kernel_rfl) (by kernel_rfl) (by exact fun _ _ _ h => h) (Or.inl ⟨by rfl, ?_⟩) (by assumption) ?_
    rotate_left
    · intro wS hSw
      go_simp
      all_goals first | with_reducible rfl | rw [if_neg (by omega)]
    simp only [Act.put, List.setIfInBounds_toArray, List.set]
    refine wpAnyH_done (by kernel_rfl) ?_ _
    clear hHeld h4
    have QB := Lib.hid (fun g (hg : rowBlk aQ cQ = some g) => RQ.out.blk hg)
    go_wp2_with fail
    refine (toEntryS_c _ xs w4 (H0.out.below K4) (by rw [HZ.out]; exact hn)).mono ?_
    rintro e w5 ⟨rfl, b5, k5⟩
    rw [HZ.out]
    have K5 := below_next K4 k5
    have z4 := K4.size
    have RX := Lib.hid (Row.ofBlock (B := w4.heap.size) six_len b5 (Nat.le_refl _) HZ.out hn)
    have x5 := lt_of_block b5
    replace RQ := Lib.hid (RQ.out.below k5)
    replace BB := Lib.hid (carryN' k5 BB.out)
    clear b5 k5 K4
    have cB := cell_of_block BB.out
    have lB := lt_of_block BB.out
    go_wp2_with fail
    refine (toReq_c r.c r.n r.o r.x r.y w5).mono ?_
    rintro e w6 ⟨rfl, k6⟩
    clear cB lB
    have K6 := below_next K5 k6
    replace RX := Lib.hid (RX.out.below k6)
    replace RQ := Lib.hid (RQ.out.below k6)
    replace BB := Lib.hid (carryN' k6 BB.out)
    have z6 := k6.size
    clear k6 K5
    go_wp2_with fail
    refine (CI.out _ n n w6 (EE.out.below K6) (RX.out.slE six_len HZ.out) hn).mono ?_
    rintro e w7 ⟨aP, rfl, rP, k7⟩
    rw [HL.out] at rP ⊢
    have K7 := below_next K6 k7
    have RP := Lib.hid rP
    have z7 := k7.size
    have PB := Lib.hid (fun g (hg : rowBlk aP l = some g) => (RP.out.blk hg).1)
    replace RX := Lib.hid (RX.out.below k7)
    replace RQ := Lib.hid (RQ.out.below k7)
    replace BB := Lib.hid (carryN' k7 BB.out)
    clear k7 K6 rP
    go_wp2_with fail
    refine (eqEntryS_c _ _ zs w7 (RP.out.slE six_len HL.out) (RQ.out.slE six_len HL.out)).mono ?_
    rintro e w8 ⟨rfl, k8⟩
    have K8 := below_next K7 k8
    replace RX := Lib.hid (RX.out.below k8)
    replace RQ := Lib.hid (RQ.out.below k8)
    replace RP := Lib.hid (RP.out.below k8)
    replace BB := Lib.hid (carryN' k8 BB.out)
    clear k8 K7
    go_wp2_with fail
    refine (toEntryS_c _ xs w8 (H0.out.below K8) (by rw [HZ.out]; exact hn)).mono ?_
    intro e w9 hcp
    obtain ⟨g9, rfl, i9, k9⟩ := copied_sl hcp HZ.out hn
    have I9 := Lib.hid i9
    have K9 := below_next K8 k9
    replace RX := Lib.hid (RX.out.below k9)
    replace RQ := Lib.hid (RQ.out.below k9)
    replace RP := Lib.hid (RP.out.below k9)
    replace BB := Lib.hid (carryN' k9 BB.out)
    clear hcp i9 k9 K8
    go_wp2_with fail
    refine (eqEntryS_c _ _ xs w9 (RX.out.slE six_len HZ.out) I9.out).mono ?_
    rintro e w10 ⟨rfl, k10⟩
    have K10 := below_next K9 k10
    replace RX := Lib.hid (RX.out.below k10)
    replace RQ := Lib.hid (RQ.out.below k10)
    replace RP := Lib.hid (RP.out.below k10)
    replace BB := Lib.hid (carryN' k10 BB.out)
    clear k10 K9 I9
    go_wp2_with fail
    refine (markEntrys_r 1 w10 RX.out HZ.out (by omega) (by omega) (by omega)).mono ?_
    rintro e w11 ⟨rfl, mX⟩
    have K11 : Below w.heap.size w w11 := K10.grown mX.grown K10.size (fun g hg => by have := blk_some hg; omega)
    replace RQ := Lib.hid (RQ.out.kept mX.grown (fun g hg e => by have := (QB.out g hg).2; have := blk_some e; omega))
    replace RP := Lib.hid (RP.out.kept mX.grown (fun g hg e => by have := PB.out g hg; have := blk_some e; omega))
    replace BB := Lib.hid ((mX.grown.block w.heap.size (lt_of_block BB.out) (fun e => by have := blk_some e.symm; omega)).trans BB.out)
    clear mX K10 RX
    have hng : ¬ (1 + ((n * 6 : Nat) : Int)) < 0 := by omega
    go_wp2_with fail
    refine (eqEntryS_c _ _ zs w11 (RP.out.slE six_len HL.out) (RQ.out.slE six_len HL.out)).mono ?_
    rintro e w12 ⟨rfl, k12⟩
    have K12 := below_next K11 k12
    replace RQ := Lib.hid (RQ.out.below k12)
    replace RP := Lib.hid (RP.out.below k12)
    replace BB := Lib.hid (carryN' k12 BB.out)
    clear k12 K11 hng
    go_wp2_with fail
    refine (markEntrys_r 1 w12 RP.out HL.out (by omega) (by omega) (by omega)).mono ?_
    rintro e w13 ⟨rfl, mP⟩
    have K13 : Below w.heap.size w w13 := K12.grown mP.grown K12.size (fun g hg => by have := PB.out g hg; omega)
    replace RQ := Lib.hid (RQ.out.kept mP.grown (fun g hg e => by have := (QB.out g hg).2; have := PB.out _ e; omega))
    replace BB := Lib.hid ((mP.grown.block w.heap.size (lt_of_block BB.out) (fun e => by have := PB.out _ e.symm; omega)).trans BB.out)
    have NP := Lib.hid (show Numbered w13 aP l 6 1 from fun g hg => ⟨by have := (RP.out.blk hg).2; have := mP.size; omega, fun j hj => mP.cells g hg j hj⟩)
    clear mP K12
    have hny : ¬ (1 + ((l * 6 : Nat) : Int)) < 0 := by omega
    go_wp2_with fail
    refine (heldEntrys_r 1 w13 RP.out HL.out (fun g hg j hj => (NP.out g hg).2 j hj) (by omega) (by omega) (by omega)).mono ?_
    rintro e w14 ⟨rfl, rfl⟩
    have cB := cell_of_block BB.out
    have lB := lt_of_block BB.out
    go_wp2_with fail
    have KE := below_next K13 (Below.drew (Below.refl w13.heap.size w13))
    have hce : ∀ i, w13.drew.cell? ⟨w.heap.size, i, none⟩ = (#[.int .i64 r.c, .int .i64 r.n, .int .i64 r.o, .int .i64 r.x, .int .i64 r.y] : Array Value)[i]? := cell_of_block (show w13.drew.heap[w.heap.size]? = _ from BB.out)
    have lE : w.heap.size < w13.drew.heap.size := lB
    have NPD := Lib.hid (NP.out.below (Below.drew (Below.refl w13.heap.size w13)))
    have RQD := Lib.hid (show Row w13.drew w.heap.size 44 aQ cQ 6 En.cs zs from RQ.out.drew)
    refine wp_region_held_drew (S := fun w' => ∀ i, w'.cell? ⟨w.heap.size, i, none⟩ = (#[.int .i64 r.c, .int .i64 r.n, .int .i64 r.o, .int .i64 r.x, .int .i64 r.y] : Array Value)[i]?) (by kernel_rfl) hce (fun hHeld => ?_)
    clear hce cB lB K13 NP RQ
    refine wpAnyH_take (i := 0) (oi := _) (v := ?_) (by (simp only [List.getElem?_toArray]; rfl)) (by kernel_rfl) (by kernel_rfl) (by kernel_rfl) (by exact fun _ _ _ h => h) (Or.inl ⟨by rfl, ?_⟩) (by assumption) ?_
    rotate_left
    · intro wS hSw
      go_simp
      all_goals first | with_reducible rfl | rw [if_neg (by omega)]
    simp only [Act.put, List.setIfInBounds_toArray, List.set]
    refine wpAnyH_take (i := 2) (oi := _) (v := ?_) (by (simp only [List.getElem?_toArray]; rfl)) (by kernel_rfl) (by kernel_rfl) (by kernel_rfl) (by exact fun _ _ _ h => h) (Or.inl ⟨by rfl, ?_⟩) (by assumption) ?_
    rotate_left
    · intro wS hSw
      go_simp
      all_goals first | with_reducible rfl | rw [if_neg (by omega)]
    simp only [Act.put, List.setIfInBounds_toArray, List.set]
    refine wpAnyH_ready (rs := [1]) (by kernel_rfl) (by simp) ?_
    refine AllReadyH.cons (o := _) (by (simp only [List.getElem?_toArray]; rfl)) (fun K hK => ?_) AllReadyH.nil
    go_simp
    refine (toEntryS_c _ xs w13.drew (H0.out.below KE) (by rw [HZ.out]; exact hn)).mono ?_
    intro e w15 hcp
    obtain ⟨g15, rfl, i15, k15⟩ := copied_sl hcp HZ.out hn
    have h15 : ∀ i, w15.cell? ⟨w.heap.size, i, none⟩ = (#[.int .i64 r.c, .int .i64 r.n, .int .i64 r.o, .int .i64 r.x, .int .i64 r.y] : Array Value)[i]? := fun i => ((bcell k15).1 _ i lE).trans (hHeld i)
    have I15 := Lib.hid i15
    have K15 := below_next KE k15
    replace NPD := Lib.hid (NPD.out.below k15)
    replace RQD := Lib.hid (RQD.out.below k15)
    have l15 : w.heap.size < w15.heap.size := Nat.lt_of_lt_of_le lE k15.size
    clear hcp i15 k15 KE hHeld
    refine hK.out _ _ h15 (fun hHeld => ?_)
    clear hK K
    try simp only [Act.put, List.setIfInBounds_toArray, List.set]
    refine wpAnyH_ready (rs := [3]) (by kernel_rfl) (by simp) ?_
    refine AllReadyH.cons (o := _) (by (simp only [List.getElem?_toArray]; rfl)) (fun K hK => ?_) AllReadyH.nil
    go_simp
    refine (toReq_c r.c r.n r.o r.x r.y w15).mono ?_
    rintro e w16 ⟨rfl, k16⟩
    have h16 : ∀ i, w16.cell? ⟨w.heap.size, i, none⟩ = (#[.int .i64 r.c, .int .i64 r.n, .int .i64 r.o, .int .i64 r.x, .int .i64 r.y] : Array Value)[i]? := fun i => ((bcell k16).1 _ i l15).trans (h15 i)
    replace I15 := Lib.hid (I15.out.below k16)
    replace NPD := Lib.hid (NPD.out.below k16)
    replace RQD := Lib.hid (RQD.out.below k16)
    have K16 := below_next K15 k16
    have l16 : w.heap.size < w16.heap.size := Nat.lt_of_lt_of_le l15 k16.size
    clear k16 K15 hHeld h15
    refine hK.out _ _ h16 (fun hHeld => ?_)
    clear hK K
    try simp only [Act.put, List.setIfInBounds_toArray, List.set]
    refine wpAnyH_ready (rs := [4]) (by kernel_rfl) (by simp) ?_
    refine AllReadyH.cons (o := _) (by (simp only [List.getElem?_toArray]; rfl)) (fun K hK => ?_) AllReadyH.nil
    go_simp
    refine (CI.out _ n n w16 (EE.out.below K16) I15.out hn).mono ?_
    rintro e w17 ⟨aN, rfl, rN, k17⟩
    rw [HL.out] at rN ⊢
    have h17 : ∀ i, w17.cell? ⟨w.heap.size, i, none⟩ = (#[.int .i64 r.c, .int .i64 r.n, .int .i64 r.o, .int .i64 r.x, .int .i64 r.y] : Array Value)[i]? := fun i => ((bcell k17).1 _ i l16).trans (h16 i)
    have K17 := below_next K16 k17
    have RN := Lib.hid rN
    replace NPD := Lib.hid (NPD.out.below k17)
    replace RQD := Lib.hid (RQD.out.below k17)
    clear k17 K16 rN I15 hHeld h16
    refine hK.out _ _ h17 (fun hHeld => ?_)
    clear hK K
    try simp only [Act.put, List.setIfInBounds_toArray, List.set]
    refine wpAnyH_take (i := 5) (oi := _) (v := ?_) (by (simp only [List.getElem?_toArray]; rfl)) (by kernel_rfl) (by kernel_rfl) (by kernel_rfl) (by exact fun _ _ _ h => h) (Or.inl ⟨by rfl, ?_⟩) (by assumption) ?_
    rotate_left
    · intro wS hSw
      go_simp
      all_goals first | with_reducible rfl | rw [if_neg (by omega)]
    simp only [Act.put, List.setIfInBounds_toArray, List.set]
    refine wpAnyH_take (i := 6) (oi := _) (v := ?_) (by (simp only [List.getElem?_toArray]; rfl)) (by kernel_rfl) (by kernel_rfl) (by kernel_rfl) (by exact fun _ _ _ h => h) (Or.inl ⟨by rfl, ?_⟩) (by assumption) ?_
    rotate_left
    · intro wS hSw
      go_simp
      all_goals first | with_reducible rfl | rw [if_neg (by omega)]
    simp only [Act.put, List.setIfInBounds_toArray, List.set]
    refine wpAnyH_take (i := 7) (oi := _) (v := ?_) (by (simp only [List.getElem?_toArray]; rfl)) (by kernel_rfl) (by kernel_rfl) (by kernel_rfl) (by exact fun _ _ _ h => h) (Or.inl ⟨by rfl, ?_⟩) (by assumption) ?_
    rotate_left
    · intro wS hSw
      go_simp
      all_goals first | with_reducible rfl | rw [if_neg (by omega)]
    simp only [Act.put, List.setIfInBounds_toArray, List.set]
    refine wpAnyH_take (i := 8) (oi := _) (v := ?_) (by (simp only [List.getElem?_toArray]; rfl)) (by kernel_rfl) (by kernel_rfl) (by kernel_rfl) (by exact fun _ _ _ h => h) (Or.inl ⟨by rfl, ?_⟩) (by assumption) ?_
    rotate_left
    · intro wS hSw
      go_simp
      all_goals first | with_reducible rfl | rw [if_neg (by omega)]
    simp only [Act.put, List.setIfInBounds_toArray, List.set]
    refine wpAnyH_take (i := 9) (oi := _) (v := ?_) (by (simp only [List.getElem?_toArray]; rfl)) (by kernel_rfl) (by kernel_rfl) (by kernel_rfl) (by exact fun _ _ _ h => h) (Or.inl ⟨by rfl, ?_⟩) (by assumption) ?_
    rotate_left
    · intro wS hSw
      go_simp
      all_goals first | with_reducible rfl | rw [if_neg (by omega)]
    simp only [Act.put, List.setIfInBounds_toArray, List.set]
    refine wpAnyH_done (by kernel_rfl) ?_ _
    clear hHeld h17
    go_wp2_with fail
    refine (eqEntryS_c _ _ zs w17 (RN.out.slE six_len HL.out) (RQD.out.slE six_len HL.out)).mono ?_
    rintro e w18 ⟨rfl, k18⟩
    have K18 := below_next K17 k18
    replace NPD := Lib.hid (NPD.out.below k18)
    clear k18 K17
    go_wp2_with fail
    refine (heldEntrys_r 1 w18 RP.out HL.out (fun g hg j hj => (NPD.out g hg).2 j hj) (by omega) (by omega) (by omega)).mono ?_
    rintro e w19 ⟨rfl, rfl⟩
    go_wp2_with fail
    go_ret
    exact ⟨rfl, K18⟩
end Go.Proofs.YtbfnilfkhonpaaaDoor
