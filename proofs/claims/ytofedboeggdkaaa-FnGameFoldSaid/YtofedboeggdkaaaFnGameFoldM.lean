/- The walk of FnGameFold: it returns true for every two codes; no condition. | FnGameFold: the law returns true for every input; no condition. -/
import Derived.Test.YtofedboeggdkaaaFoldM
import Derived.Test.YtofedboeggdkaaaDrawsM
import Derived.Test.YtofedboeggdkaaaGameOk
import Derived.Test.YtofedboeggdkaaaOpen
import Derived.ProofKit
import Derived.OpenShut
import Derived.ShutString
import Derived.ChangeOld
import Derived.Below
/-! The walk of FnGameFold: it returns true for every two codes; no condition. -/
namespace Go.Proofs.Ytofedboeggdkaaa
open Go.RowKit Go.Joins

theorem IsSl.takeTo {α : Type} {w : World} {a : Option Addr} {n cap k m : Nat} {R : α → List Value} {zs : List α} (h : IsSl w (.slice a n cap) k R zs) (hm : m ≤ n) : IsSl w (.slice a m cap) k R (zs.take m) := by
  obtain ⟨hl, hc, hx, hr⟩ := h.bounds
  exact ⟨a, cap, by rw [List.length_take, Nat.min_eq_left (by omega)], by rw [List.length_take]; omega, hx, hr.takeG m⟩
theorem gameB_small {g : Gm} (h : gameB g = true) : g.es.length ≤ 4 ∧ g.fl.length = 16 ∧ g.la.length = 4 := by
  have h1 := game_lensG h
  rw [gameB_iff] at h
  exact ⟨ents_le4 h.1, h1⟩
theorem gfold_small (rs : List Rq) : (gfold rs).es.length ≤ 4 ∧ (gfold rs).fl.length ≤ 16 ∧ (gfold rs).la.length ≤ 4 := by
  by_cases h : rs.length ≤ 60 ∧ rs.all good = true
  · rw [gfold_yes h.1 h.2]
    have := gameB_small (foldG_new_ok h.2)
    omega
  · rw [gfold_no h]
    simp [emptyG]
theorem gfold_okB {rs : List Rq} (h : gameB (gfold rs) = true) : rs.length ≤ 60 ∧ rs.all good = true := by
  by_cases h' : rs.length ≤ 60 ∧ rs.all good = true
  · exact h'
  · rw [gfold_no h'] at h
    exact absurd (game_lensG h).1 (by simp [emptyG])
end Go.Proofs.Ytofedboeggdkaaa
namespace Go.Proofs.Ytofedboeggdkaaa.fnGameFold
open Go.RowKit Go.Joins

set_option maxRecDepth 100000 in
set_option maxHeartbeats 16000000 in
theorem walk (v0 : Value) (z0 : Bts) (v1 : Value) (z1 : Bts) (w : World) (h0 : IsBytes w v0 z0) (h1 : IsBytes w v1 z1) :
    Calls Try.prog 7 #[v0, v1] w fun e w' => e = .returned (.bool true) ∧ Below w.heap.size w w' := by
  obtain ⟨a, n, cap⟩ := z0
  have HZ := Lib.hid h0
  obtain ⟨hv, hlc, hm, -⟩ := h0
  simp only at hv hlc hm
  subst hv
  obtain ⟨a', n1, cap'⟩ := z1
  obtain ⟨hv1, hlc1, hm1, -⟩ := h1
  simp only at hv1 hlc1 hm1
  subst hv1
  by_cases hbig : (1048576 : Int) < n
  · go_enter Try.func7, Try.ntmps7
    go_wp2_with fail
    go_ret
    exact ⟨rfl, Below.refl _ _⟩
  · by_cases hbig1 : (1048576 : Int) < n1
    · go_enter Try.func7, Try.ntmps7
      go_wp2_with fail
      go_ret
      exact ⟨rfl, Below.refl _ _⟩
    · go_enter Try.func7, Try.ntmps7
      go_wp2_with fail
      refine (DrawGameFold_c _ _ w HZ.out).mono ?_
      rintro e w1 ⟨rs, b, cb, rfl, h41, hsl, k1⟩
      have HSL := Lib.hid hsl
      obtain ⟨-, hlcb, hmcb, -⟩ := hsl.bounds
      unfold maxLen at hmcb
      have SM := gfold_small rs
      have HOK := Lib.hid (fun h => gfold_okB (rs := rs) h)
      obtain ⟨N, hN⟩ : ∃ N, N = rs.length := ⟨_, rfl⟩
      have HN := Lib.hid hN
      rw [← hN] at h41 HSL hlcb HOK ⊢
      obtain ⟨y, hy⟩ : ∃ y, y = gfold rs := ⟨_, rfl⟩
      have HY := Lib.hid hy
      rw [← hy] at SM HOK
      clear hN hy hsl HZ
      go_wp2_with fail
      refine (GameFold_c b N cb rs w1 HSL.out HN.out.symm).mono ?_
      rintro e w2 ⟨v, rfl, ov, k2⟩
      rw [← HY.out] at ov
      obtain ⟨e0, f0, e1, f1, e2, f2, rfl, o2⟩ := ov.rows
      go_wp2_with fail
      obtain ⟨w3, hw3, sw3, gB, k3⟩ := blocks1 w2 (.cells #[.slice e0 y.es.length f0, .slice e1 y.fl.length f1, .slice e2 y.la.length f2] 46)
      rw [← hw3]
      clear hw3 sw3
      have O3 := Lib.hid ((o2.below k3).low (Nat.zero_le _))
      have S3 := Lib.hid (HSL.out.below (below_next k2 k3))
      have K3 := Lib.hid (below_next k1 (below_next k2 k3))
      have GB := Lib.hid gB
      clear k1 k2 k3 ov o2 HSL
      have cG := cell_of_block gB
      have lG := lt_of_block gB
      obtain ⟨P, hP⟩ : ∃ P, P = w2.heap.size := ⟨_, rfl⟩
      rw [← hP] at GB cG lG gB ⊢
      clear hP
      have CS := Lib.hid (fun V h => sGameFold_c b N cb rs V h HN.out.symm)
      rw [← HY.out] at CS
      have CO := Lib.hid (fun V h0 h1 h2 => GameOk_c y e0 e1 e2 f0 f1 f2 V h0 h1 h2 (by omega))
      obtain ⟨gb, hgb⟩ : ∃ gb, gb = gameB y := ⟨_, rfl⟩
      have HGB := Lib.hid hgb
      rw [← hgb] at CO
      clear hgb gB
      refine wp_region_held_drew (S := fun w' => ((∀ b o, b < w3.heap.size → (w').cell? ⟨b, o, none⟩ = (w3).cell? ⟨b, o, none⟩) ∧ Below (w3.heap.size) (w3) (w'))) (by kernel_rfl) (KeptB.drew (KeptB.refl _ _)) (fun hHeld => ?_)
      refine wpAnyH_take (i := 0) (oi := _) (v := ?_) (by (simp only [List.getElem?_toArray]; rfl)) (by kernel_rfl) (by kernel_rfl) (by kernel_rfl) (by exact fun _ _ _ h => h) (Or.inl ⟨by rfl, ?_⟩) (by assumption) ?_
      rotate_left
      · intro wS hSw
        go_simp
        all_goals first | with_reducible rfl | rw [if_neg (by omega)]
      simp only [Act.put, List.setIfInBounds_toArray, List.set]
      refine wpAnyH_take (i := 1) (oi := _) (v := ?_) (by (simp only [List.getElem?_toArray]; rfl)) (by kernel_rfl) (by kernel_rfl) (by kernel_rfl) (by exact fun _ _ _ h => h) (Or.inl ⟨by rfl, ?_⟩) (by assumption) ?_
      rotate_left
      · intro wS hSw
        go_simp
        all_goals first | with_reducible rfl | rw [if_neg (by omega)]
      simp only [Act.put, List.setIfInBounds_toArray, List.set]
      have t0 := Lib.hid (KeptB.drew (KeptB.refl w3.heap.size w3))
      clear hHeld
      refine wpAnyH_ready (rs := [2]) (by kernel_rfl) (by simp) ?_
      refine AllReadyH.cons (o := _) (by (simp only [List.getElem?_toArray]; rfl)) (fun K hK => ?_) AllReadyH.nil
      go_simp
      refine (CS.out _ (S3.out.below t0.out.2)).mono ?_
      rintro e u1 ⟨v1, rfl, ov1, kk⟩
      obtain ⟨p0, q0, p1, q1, p2, q2, rfl, o1⟩ := ov1.rows
      have t1 := Lib.hid (KeptB.next (Nat.le_refl _) t0.out kk)
      have Q1 := Lib.hid o1
      clear kk ov1 o1
      refine hK.out _ _ t1.out (fun hHeld => ?_)
      clear hK K
      try simp only [Act.put, List.setIfInBounds_toArray, List.set]
      clear hHeld
      refine wpAnyH_ready (rs := [3]) (by kernel_rfl) (by simp) ?_
      refine AllReadyH.cons (o := _) (by (simp only [List.getElem?_toArray]; rfl)) (fun K hK => ?_) AllReadyH.nil
      go_simp
      refine (wpGame_c y e0 e1 e2 p0 p1 p2 _ _ _ f0 f1 f2 q0 q1 q2 _ ((O3.out.below t1.out.2).e.sl five_len) ((O3.out.below t1.out.2).f.sl int_len) ((O3.out.below t1.out.2).l.sl int_len) (Q1.out.e.sl five_len) (Q1.out.f.sl int_len) (Q1.out.l.sl int_len)).mono ?_
      rintro e u2 ⟨rfl, kk⟩
      have t2 := Lib.hid (KeptB.next (Nat.le_refl _) t1.out kk)
      clear kk Q1
      refine hK.out _ _ t2.out (fun hHeld => ?_)
      clear hK K
      try simp only [Act.put, List.setIfInBounds_toArray, List.set]
      refine wpAnyH_take (i := 4) (oi := _) (v := ?_) (by (simp only [List.getElem?_toArray]; rfl)) (by kernel_rfl) (by kernel_rfl) (by kernel_rfl) (by exact fun _ _ _ h => h) (Or.inl ⟨by rfl, ?_⟩) (by assumption) ?_
      rotate_left
      · intro wS hSw
        go_simp
        all_goals first | with_reducible rfl | rw [if_neg (by omega)]
      simp only [Act.put, List.setIfInBounds_toArray, List.set]
      refine wpAnyH_take (i := 5) (oi := _) (v := ?_) (by (simp only [List.getElem?_toArray]; rfl)) (by kernel_rfl) (by kernel_rfl) (by kernel_rfl) (by exact fun _ _ _ h => h) (Or.inl ⟨by rfl, ?_⟩) (by assumption) ?_
      rotate_left
      · intro wS hSw
        go_simp
        all_goals first | with_reducible rfl | rw [if_neg (by omega)]
      simp only [Act.put, List.setIfInBounds_toArray, List.set]
      refine wpAnyH_take (i := 6) (oi := _) (v := ?_) (by (simp only [List.getElem?_toArray]; rfl)) (by kernel_rfl) (by kernel_rfl) (by kernel_rfl) (by exact fun _ _ _ h => h) (Or.inl ⟨by rfl, ?_⟩) (by assumption) ?_
      rotate_left
      · intro wS hSw
        go_simp
        all_goals first | with_reducible rfl | rw [if_neg (by omega)]
      simp only [Act.put, List.setIfInBounds_toArray, List.set]
      clear hHeld
      refine wpAnyH_ready (rs := [7]) (by kernel_rfl) (by simp) ?_
      refine AllReadyH.cons (o := _) (by (simp only [List.getElem?_toArray]; rfl)) (fun K hK => ?_) AllReadyH.nil
      go_simp
      refine (CO.out _ ((O3.out.below t2.out.2).e.sl five_len) ((O3.out.below t2.out.2).f.sl int_len) ((O3.out.below t2.out.2).l.sl int_len)).mono ?_
      rintro e w4 ⟨rfl, kk⟩
      have t4 := Lib.hid (KeptB.next (Nat.le_refl _) t2.out kk)
      clear kk
      refine hK.out _ _ t4.out (fun hHeld => ?_)
      clear hK K
      try simp only [Act.put, List.setIfInBounds_toArray, List.set]
      refine wpAnyH_take (i := 8) (oi := _) (v := ?_) (by (simp only [List.getElem?_toArray]; rfl)) (by kernel_rfl) (by kernel_rfl) (by kernel_rfl) (by exact fun _ _ _ h => h) (Or.inl ⟨by rfl, ?_⟩) (by assumption) ?_
      rotate_left
      · intro wS hSw
        go_simp
        all_goals first | with_reducible rfl | rw [if_neg (by omega)]
      simp only [Act.put, List.setIfInBounds_toArray, List.set]
      refine wpAnyH_take (i := 9) (oi := _) (v := ?_) (by (simp only [List.getElem?_toArray]; rfl)) (by kernel_rfl) (by kernel_rfl) (by kernel_rfl) (by exact fun _ _ _ h => h) (Or.inl ⟨by rfl, ?_⟩) (by assumption) ?_
      rotate_left
      · intro wS hSw
        go_simp
        all_goals first | with_reducible rfl | rw [if_neg (by omega)]
      simp only [Act.put, List.setIfInBounds_toArray, List.set]
      refine wpAnyH_done (by kernel_rfl) ?_ _
      have O4 := Lib.hid (O3.out.below t4.out.2)
      have S4 := Lib.hid (S3.out.below t4.out.2)
      have K4 := Lib.hid (below_next K3.out t4.out.2)
      have G4 := Lib.hid (carryN t4.out.2 GB.out)
      clear t0 t1 t2 t4 O3 S3 K3 GB cG lG hHeld
      have cG := cell_of_block G4.out
      have lG := lt_of_block G4.out
      cases gb with
      | false =>
        go_wp2_with fail
        refine wp_region_held_drew (S := fun w' => ((∀ b o, b < w4.heap.size → (w').cell? ⟨b, o, none⟩ = (w4).cell? ⟨b, o, none⟩) ∧ Below (w4.heap.size) (w4) (w'))) (by kernel_rfl) (KeptB.drew (KeptB.refl _ _)) (fun hHeld => ?_)
        refine wpAnyH_take (i := 0) (oi := _) (v := ?_) (by (simp only [List.getElem?_toArray]; rfl)) (by kernel_rfl) (by kernel_rfl) (by kernel_rfl) (by exact fun _ _ _ h => h) (Or.inl ⟨by rfl, ?_⟩) (by assumption) ?_
        rotate_left
        · intro wS hSw
          go_simp
          all_goals first | with_reducible rfl | rw [if_neg (by omega)]
        simp only [Act.put, List.setIfInBounds_toArray, List.set]
        refine wpAnyH_take (i := 1) (oi := _) (v := ?_) (by (simp only [List.getElem?_toArray]; rfl)) (by kernel_rfl) (by kernel_rfl) (by kernel_rfl) (by exact fun _ _ _ h => h) (Or.inl ⟨by rfl, ?_⟩) (by assumption) ?_
        rotate_left
        · intro wS hSw
          go_simp
          all_goals first | with_reducible rfl | rw [if_neg (by omega)]
        simp only [Act.put, List.setIfInBounds_toArray, List.set]
        have t0 := Lib.hid (KeptB.drew (KeptB.refl w4.heap.size w4))
        clear hHeld
        refine wpAnyH_ready (rs := [2]) (by kernel_rfl) (by simp) ?_
        refine AllReadyH.cons (o := _) (by (simp only [List.getElem?_toArray]; rfl)) (fun K hK => ?_) AllReadyH.nil
        go_simp
        refine (CS.out _ (S4.out.below t0.out.2)).mono ?_
        rintro e u1 ⟨v1, rfl, ov1, kk⟩
        obtain ⟨p0, q0, p1, q1, p2, q2, rfl, o1⟩ := ov1.rows
        have t1 := Lib.hid (KeptB.next (Nat.le_refl _) t0.out kk)
        have Q1 := Lib.hid o1
        clear kk ov1 o1
        refine hK.out _ _ t1.out (fun hHeld => ?_)
        clear hK K
        try simp only [Act.put, List.setIfInBounds_toArray, List.set]
        clear hHeld
        refine wpAnyH_ready (rs := [3]) (by kernel_rfl) (by simp) ?_
        refine AllReadyH.cons (o := _) (by (simp only [List.getElem?_toArray]; rfl)) (fun K hK => ?_) AllReadyH.nil
        go_simp
        refine (wpGame_c y e0 e1 e2 p0 p1 p2 _ _ _ f0 f1 f2 q0 q1 q2 _ ((O4.out.below t1.out.2).e.sl five_len) ((O4.out.below t1.out.2).f.sl int_len) ((O4.out.below t1.out.2).l.sl int_len) (Q1.out.e.sl five_len) (Q1.out.f.sl int_len) (Q1.out.l.sl int_len)).mono ?_
        rintro e u2 ⟨rfl, kk⟩
        have t2 := Lib.hid (KeptB.next (Nat.le_refl _) t1.out kk)
        clear kk Q1
        refine hK.out _ _ t2.out (fun hHeld => ?_)
        clear hK K
        try simp only [Act.put, List.setIfInBounds_toArray, List.set]
        refine wpAnyH_take (i := 4) (oi := _) (v := ?_) (by (simp only [List.getElem?_toArray]; rfl)) (by kernel_rfl) (by kernel_rfl) (by kernel_rfl) (by exact fun _ _ _ h => h) (Or.inl ⟨by rfl, ?_⟩) (by assumption) ?_
        rotate_left
        · intro wS hSw
          go_simp
          all_goals first | with_reducible rfl | rw [if_neg (by omega)]
        simp only [Act.put, List.setIfInBounds_toArray, List.set]
        refine wpAnyH_done (by kernel_rfl) ?_ _
        have K5 := Lib.hid (below_next K4.out t2.out.2)
        clear t0 t1 t2 cG lG hHeld
        go_wp2_with fail
        go_ret
        exact ⟨rfl, K5.out⟩
      | true =>
        have hgr := HOK.out HGB.out.symm
        have HG := Lib.hid hgr.2
        have HYF := Lib.hid (show y = foldG newG rs by rw [HY.out]; exact gfold_yes (by have := HN.out; omega) hgr.2)
        obtain ⟨q, hq⟩ : ∃ q, q = n1 % (N + 1) := ⟨_, rfl⟩
        have hqN : q ≤ N := by have := Nat.mod_lt n1 (show 0 < N + 1 by omega); omega
        have hw1 : IntKind.i64.wrap ((N : Int) + 1) = (N : Int) + 1 := IntWalk.i64_in _ ⟨by omega, by omega⟩
        have hw2 : ((n1 : Int)).tmod ((N : Int) + 1) = (q : Int) := by rw [Int.tmod_eq_emod_of_nonneg (by omega), hq]; rfl
        have hw3 : IntKind.i64.wrap (q : Int) = (q : Int) := IntWalk.i64_in _ ⟨by omega, by omega⟩
        have hz1 : ¬ ((N : Int) + 1 = 0) := by omega
        have hq0 : (0 : Int) ≤ (q : Int) := by omega
        have hqc : (q : Int) ≤ (cb : Int) := by omega
        have hqc' : q ≤ cb := by omega
        have HFT := Lib.hid (show gfold (rs.take q) = foldG newG (rs.take q) from gfold_yes (by rw [List.length_take]; have := HN.out; omega) (all_takeG q hgr.2))
        clear hgr hq cG lG
        go_wp2_with fail
        refine (GameFold_c b q cb (rs.take q) w4 (S4.out.takeTo hqN) (by rw [List.length_take]; have := HN.out; omega)).mono ?_
        rintro e w5 ⟨v, rfl, ov, k5⟩
        rw [HFT.out] at ov
        obtain ⟨X, hX⟩ : ∃ X, X = foldG newG (rs.take q) := ⟨_, rfl⟩
        have HX := Lib.hid hX
        rw [← hX] at ov
        clear hX
        obtain ⟨g0, h0, g1, h1, g2, h2, rfl, o5⟩ := ov.rows
        go_wp2_with fail
        obtain ⟨w6, hw6, sw6, xB, k6⟩ := blocks1 w5 (.cells #[.slice g0 X.es.length h0, .slice g1 X.fl.length h1, .slice g2 X.la.length h2] 46)
        rw [← hw6]
        clear hw6 sw6
        have O5 := Lib.hid (O4.out.below k5)
        have S5 := Lib.hid (S4.out.below k5)
        have K5 := Lib.hid (below_next K4.out k5)
        have G5 := Lib.hid (carryN k5 G4.out)
        have OX := Lib.hid ((o5.below k6).low (Nat.zero_le _))
        have XB := Lib.hid xB
        have K6 := Lib.hid k6
        have HA := Lib.hid S5.out.bounds.2.2.2
        clear k5 k6 xB ov o5 O4 S4 K4 G4
        go_loopw [9] (fun i wr => ∃ (k : Nat) (g : Gm) (b0 b1 b2 : Option Addr) (d0 d1 d2 : Nat), q ≤ k ∧ k ≤ N ∧ i = .int .i64 k ∧ g = foldG newG (rs.take k) ∧ wr.heap[w5.heap.size]? = some (.cells #[.slice b0 g.es.length d0, .slice b1 g.fl.length d1, .slice b2 g.la.length d2] 46 (0, 0)) ∧
          Own3 wr 0 b0 d0 b1 d1 b2 d2 g ∧ Below w5.heap.size w5 wr) (fun i _ => N - (intOf i).toNat)
        case atStart => exact ⟨q, X, g0, g1, g2, h0, h1, h2, Nat.le_refl _, hqN, rfl, HX.out, XB.out, OX.out, K6.out⟩
        case round =>
          obtain ⟨k, g, b0, b1, b2, d0, d1, d2, hqk, hk, rfl, hgk, hG, hO, hbel⟩ := hrel
          have OV := Lib.hid hO
          have K := Lib.hid hbel
          have XG := Lib.hid hG
          have hsz := hbel.size
          clear hO hG
          have cX := cell_of_block XG.out
          have lX := lt_of_block XG.out
          have fX := unfrozen_of_block XG.out
          by_cases hlt : k < N
          · have hkz : k < rs.length := by have := HN.out; omega
            have hk1 : (k : Int) < (N : Int) := by omega
            have hk0 : (0 : Int) ≤ (k : Int) := by omega
            have hwk : IntKind.i64.wrap ((k : Int) + 1) = (k : Int) + 1 := IntWalk.i64_in _ ⟨by omega, by omega⟩
            obtain ⟨bb, oo, rfl, hl0, hc0⟩ := five_at HA.out k hkz
            obtain ⟨c0, c1, c2, c3, c4⟩ := hc0 wr hbel
            have hgood := all_getG HG.out hkz
            have hokg : gameB g = true := by rw [hgk]; exact foldG_new_ok (all_takeG k HG.out)
            have hnext := foldG_take_succ newG hkz
            rw [← hgk] at hnext
            obtain ⟨r, hr⟩ : ∃ r, r = rs[k] := ⟨_, rfl⟩
            rw [← hr] at c0 c1 c2 c3 c4 hgood hnext
            have hsm := gameB_small hokg
            have CD := Lib.hid (fun V (h : Own3 V 0 b0 d0 b1 d1 b2 d2 g) => GameDoF_c g r b0 b1 b2 d0 d1 d2 V (h.e.sl five_len) (h.f.sl int_len) (h.l.sl int_len) (by omega))
            rw [gameDo_yes hokg hgood] at CD
            obtain ⟨p, hp⟩ : ∃ p, p = doG g r := ⟨_, rfl⟩
            rw [← hp] at CD hnext
            obtain ⟨y', b'⟩ := p
            have HNX := Lib.hid hnext
            clear hgood hokg hnext hr hp hc0 hgk hsm hw1 hw2 hw3 hz1 hqc hqc' hq0
            simp only at CD HNX
            go_wp2_with fail
            refine wp_region_held_drew (S := fun w' => ((∀ b o, b < w5.heap.size → (w').cell? ⟨b, o, none⟩ = (wr).cell? ⟨b, o, none⟩) ∧ Below (w5.heap.size) (wr) (w'))) (by kernel_rfl) (KeptB.drew (KeptB.refl _ _)) (fun hHeld => ?_)
            refine wpAnyH_take (i := 1) (oi := _) (v := ?_) (by (simp only [List.getElem?_toArray]; rfl)) (by kernel_rfl) (by kernel_rfl) (by kernel_rfl) (by exact fun _ _ _ h => h) (Or.inl ⟨by rfl, ?_⟩) (by assumption) ?_
            rotate_left
            · intro wS hSw
              go_simp
              all_goals first | with_reducible rfl | rw [if_neg (by omega)]
            simp only [Act.put, List.setIfInBounds_toArray, List.set]
            refine wpAnyH_take (i := 2) (oi := _) (v := ?_) (by (simp only [List.getElem?_toArray]; rfl)) (by kernel_rfl) (by kernel_rfl) (by kernel_rfl) (by exact fun _ _ _ h => h) (Or.inl ⟨by rfl, ?_⟩) (by assumption) ?_
            rotate_left
            · intro wS hSw
              go_simp
              all_goals first | with_reducible rfl | rw [if_neg (by omega)]
            simp only [Act.put, List.setIfInBounds_toArray, List.set]
            refine wpAnyH_take (i := 3) (oi := _) (v := ?_) (by (simp only [List.getElem?_toArray]; rfl)) (by kernel_rfl) (by kernel_rfl) (by kernel_rfl) (by exact fun _ _ _ h => h) (Or.inl ⟨by rfl, ?_⟩) (by assumption) ?_
            rotate_left
            · intro wS hSw
              go_simp
              all_goals first | with_reducible rfl | rw [if_neg (by omega)]
            simp only [Act.put, List.setIfInBounds_toArray, List.set]
            refine wpAnyH_take (i := 4) (oi := _) (v := ?_) (by (simp only [List.getElem?_toArray]; rfl)) (by kernel_rfl) (by kernel_rfl) (by kernel_rfl) (by exact fun _ _ _ h => h) (Or.inl ⟨by rfl, ?_⟩) (by assumption) ?_
            rotate_left
            · intro wS hSw
              go_simp
              all_goals first | with_reducible rfl | rw [if_neg (by omega)]
            simp only [Act.put, List.setIfInBounds_toArray, List.set]
            have t0 := Lib.hid (KeptB.drew (KeptB.refl wr.heap.size wr))
            clear hHeld
            refine wpAnyH_ready (rs := [0]) (by kernel_rfl) (by simp) ?_
            refine AllReadyH.cons (o := _) (by (simp only [List.getElem?_toArray]; rfl)) (fun K hK => ?_) AllReadyH.nil
            go_simp
            refine hK.out _ _ (KeptB.weak t0.out hsz) (fun hHeld => ?_)
            clear hK K
            try simp only [Act.put, List.setIfInBounds_toArray, List.set]
            clear hHeld
            refine wpAnyH_ready (rs := [5]) (by kernel_rfl) (by simp) ?_
            refine AllReadyH.cons (o := _) (by (simp only [List.getElem?_toArray]; rfl)) (fun K hK => ?_) AllReadyH.nil
            go_simp
            refine (CD.out _ (OV.out.below t0.out.2)).mono ?_
            rintro e u1 ⟨i0, i1, i2, rfl, o1, kk⟩
            have t1 := Lib.hid (KeptB.next (Nat.le_refl _) t0.out kk)
            have X1 := Lib.hid (carryN t1.out.2 XG.out)
            have O1 := Lib.hid (o1.low (Nat.zero_le _))
            clear kk o1 cX lX fX c0 c1 c2 c3 c4
            refine hK.out _ _ (KeptB.weak t1.out hsz) (fun hHeld => ?_)
            clear hK K
            try simp only [Act.put, List.setIfInBounds_toArray, List.set]
            refine wpAnyH_take (i := 6) (oi := _) (v := ?_) (by (simp only [List.getElem?_toArray]; rfl)) (by kernel_rfl) (by kernel_rfl) (by kernel_rfl) (by exact fun _ _ _ h => h) (Or.inl ⟨by rfl, ?_⟩) (by assumption) ?_
            rotate_left
            · intro wS hSw
              go_simp
              all_goals first | with_reducible rfl | rw [if_neg (by omega)]
            simp only [Act.put, List.setIfInBounds_toArray, List.set]
            refine wpAnyH_take (i := 7) (oi := _) (v := ?_) (by (simp only [List.getElem?_toArray]; rfl)) (by kernel_rfl) (by kernel_rfl) (by kernel_rfl) (by exact fun _ _ _ h => h) (Or.inl ⟨by rfl, ?_⟩) (by assumption) ?_
            rotate_left
            · intro wS hSw
              go_simp
              all_goals first | with_reducible rfl | rw [if_neg (by omega)]
            simp only [Act.put, List.setIfInBounds_toArray, List.set]
            refine wpAnyH_take (i := 8) (oi := _) (v := ?_) (by (simp only [List.getElem?_toArray]; rfl)) (by kernel_rfl) (by kernel_rfl) (by kernel_rfl) (by exact fun _ _ _ h => h) (Or.inl ⟨by rfl, ?_⟩) (by assumption) ?_
            rotate_left
            · intro wS hSw
              go_simp
              all_goals first | with_reducible rfl | rw [if_neg (by omega)]
            simp only [Act.put, List.setIfInBounds_toArray, List.set]
            clear hHeld
            have cX := cell_of_block X1.out
            have lX := lt_of_block X1.out
            have fX := unfrozen_of_block X1.out
            refine wpAnyH_ready (rs := [9]) (by kernel_rfl) (by simp) ?_
            refine AllReadyH.cons (o := _) (by (simp only [List.getElem?_toArray]; rfl)) (fun K hK => ?_) AllReadyH.nil
            go_simp
            refine hK.out _ _ (KeptB.set (by simp) _ (KeptB.set (by simp) _ (KeptB.set (by simp) _ (KeptB.weak t1.out hsz)))) (fun hHeld => ?_)
            clear hK K
            try simp only [Act.put, List.setIfInBounds_toArray, List.set]
            refine wpAnyH_done (by kernel_rfl) ?_ _
            have K7 := Lib.hid (below_next K.out t1.out.2)
            clear hHeld cX lX fX t0 t1 XG OV K hbel
            go_wp2_with fail
            go_roundw
            case rel =>
              refine ⟨k + 1, y', i0, i1, i2, y'.es.length, y'.fl.length, y'.la.length, by omega, by omega, ?_, HNX.out.symm, ?_, ?_, ?_⟩
              · go_num
              · exact block_set3 X1.out _ _ _
              · exact O1.out.set3 X1.out _ _ _
              · exact below_set3 K7.out (Nat.le_refl _) _ _ _
            case measure => simp [intOf]; omega
          · have hkk : k = N := by omega
            subst hkk
            have hgy : g = y := by rw [hgk, HYF.out, List.take_of_length_le (by have := HN.out; omega)]
            subst hgy
            have OY := Lib.hid (O5.out.below hbel)
            have GY := Lib.hid (carryN hbel G5.out)
            have K7 := Lib.hid (below_next K5.out hbel)
            have cG := cell_of_block GY.out
            have lG := lt_of_block GY.out
            clear hgk hbel
            go_wp2_with fail
            refine (wpGame_c g b0 b1 b2 e0 e1 e2 _ _ _ d0 d1 d2 f0 f1 f2 _ (OV.out.e.sl five_len) (OV.out.f.sl int_len) (OV.out.l.sl int_len) (OY.out.e.sl five_len) (OY.out.f.sl int_len) (OY.out.l.sl int_len)).mono ?_
            rintro e w8 ⟨rfl, k8⟩
            have K8 := Lib.hid (below_next K7.out k8)
            clear k8 cG lG cX lX fX
            go_wp2_with fail
            refine (GameFold_c none 0 0 [] w8 ⟨none, 0, rfl, Nat.le_refl _, by simp [maxLen], fun i h => absurd h (Nat.not_lt_zero _)⟩ rfl).mono ?_
            rintro e w9 ⟨v9, rfl, ov9, k9⟩
            obtain ⟨j0, l0, j1, l1, j2, l2, rfl, o9⟩ := ov9.rows
            have K9 := Lib.hid (below_next K8.out k9)
            have ON := Lib.hid (show Own3 w9 w8.heap.size j0 l0 j1 l1 j2 l2 newG from o9)
            clear k9 o9 ov9
            go_wp2_with fail
            refine (GameNew_c _).mono ?_
            rintro e w10 ⟨f, l, rfl, hf, hl, n3, lf, ll, k10⟩
            have O10 := Lib.hid (own3_new (B := 0) hf hl n3 (Nat.zero_le _) (Nat.zero_le _))
            have ON10 := Lib.hid (ON.out.below k10)
            have K10 := Lib.hid (below_next K9.out k10)
            clear k10 hf hl n3 lf ll
            go_wp2_with fail
            refine (wpGame_c newG j0 j1 j2 _ _ _ _ _ _ l0 l1 l2 _ _ _ _ (ON10.out.e.sl five_len) (ON10.out.f.sl int_len) (ON10.out.l.sl int_len) (O10.out.e.sl five_len) (O10.out.f.sl int_len) (O10.out.l.sl int_len)).mono ?_
            rintro e w11 ⟨rfl, k11⟩
            have K11 := Lib.hid (below_next K10.out k11)
            clear k11
            go_wp2_with fail
            refine (GameNew_c _).mono ?_
            rintro e w12 ⟨f', l', rfl, hf, hl, n3, lf, ll, k12⟩
            have O12 := Lib.hid (own3_new (B := 0) hf hl n3 (Nat.zero_le _) (Nat.zero_le _))
            have K12 := Lib.hid (below_next K11.out k12)
            clear k12 hf hl n3 lf ll
            go_wp2_with fail
            refine (sGameNew_c _).mono ?_
            rintro e w13 ⟨f'', l'', rfl, hf, hl, n3, lf, ll, k13⟩
            have O13 := Lib.hid (own3_new (B := 0) hf hl n3 (Nat.zero_le _) (Nat.zero_le _))
            have ON13 := Lib.hid (O12.out.below k13)
            have K13 := Lib.hid (below_next K12.out k13)
            clear k13 hf hl n3 lf ll
            go_wp2_with fail
            refine (wpGame_c newG _ _ _ _ _ _ _ _ _ _ _ _ _ _ _ _ (ON13.out.e.sl five_len) (ON13.out.f.sl int_len) (ON13.out.l.sl int_len) (O13.out.e.sl five_len) (O13.out.f.sl int_len) (O13.out.l.sl int_len)).mono ?_
            rintro e w14 ⟨rfl, k14⟩
            have K14 := Lib.hid (below_next K13.out k14)
            clear k14
            go_wp2_with fail
            go_ret
            exact ⟨rfl, K14.out⟩
end Go.Proofs.Ytofedboeggdkaaa.fnGameFold

/-! FnGameFold: the law returns true for every input; no condition. -/
namespace Go.Proofs.Ytofedboeggdkaaa.fnGameFold
open Go.ChangeShapes hiding open_int
open Go.WideShapes Go.ChangeAt Go.RowKit
open Go.ChangeMaps (shut_string)
set_option linter.unusedVariables false

theorem own : ownKnob Try.prog.godebug = none := by kernel_rfl
theorem laidOut : laidOutB Try.prog = true := by kernel_rfl

set_option maxRecDepth 100000 in
theorem lifted (os : Os) (started : os.Started) (H : Type) (enc : TypeId × Value → H) :
    ReturnsInHanded {} Try.checked os 7 .any (Rows.fnGameFoldSpec.pre6 enc Try.prog Try.f7 Rows.fnGameFoldRow.domain false) (Rows.fnGameFoldSpec.post enc Try.prog Try.f7 false true false false) := by
  refine returnsInHanded_of_change (C := Try.checked) own started (by kernel_rfl) Try.func7
    (ChangeSpec.witness6 (enc := enc) (C := Try.checked) false ⟨#[], #[.slice none 0 0, .slice none 0 0], []⟩ 8 (by kernel_rfl) (by kernel_rfl) (by kernel_rfl) (by kernel_rfl)) ?_
  intro W base args ds gs before hval0 hW hcnd _
  have hval : ∀ (j : Nat) t v, Try.f7.params[j]? = some t → args[j]? = some v → Value.okWide Try.prog W .any base t v := hval0
  have hW' := hW
  obtain ⟨p, q, hA0, hV, rfl, hfz, hnd⟩ := hW
  have hA : DataW.TrodAll enc Try.prog W 0 (fun _ => true) true Try.f7.params.toList args.toList ds p := hA0
  rw [Try.params7] at hA hval
  obtain ⟨v0, vs0, d0, ds0, p0, q0, hargs, rfl, rfl, h0, r0⟩ := trodAll_cons hA
  obtain ⟨v1, vs1, d1, ds1, p1, q1, rfl, rfl, rfl, h1, r1⟩ := trodAll_cons r0
  obtain ⟨rfl, rfl, rfl⟩ := trodAll_nil r1
  obtain rfl : args = #[v0, v1] := by cases args; simp_all
  obtain ⟨rfl, rfl⟩ := trodVars_none hV
  have lt0 : ∀ x ∈ p0, x.block < W.heap.size := by obtain ⟨m, hm⟩ := h0; exact DataW.trod_lt m _ _ _ hm
  obtain ⟨z0, o0⟩ := open_bytes (hval 0 39 v0 rfl rfl) h0
  have lt1 : ∀ x ∈ p1, x.block < W.heap.size := by obtain ⟨m, hm⟩ := h1; exact DataW.trod_lt m _ _ _ hm
  obtain ⟨z1, o1⟩ := open_bytes (hval 1 39 v1 rfl rfl) h1
  clear hA0 hval0
  refine (walk v0 z0 v1 z1 W o0 o1).mono fun e W' ⟨he, bel⟩ => ?_
  subst he
  exact ⟨_, rfl, _, _, _, [], _, [], hW', trodAll_mk1 (shut_bool Try.underlying4 _), (trodAll_cons_mk (Below.trod laidOut (by kernel_rfl) (of_decide_eq_true (by kernel_rfl)) h0 bel lt0) (trodAll_cons_mk (Below.trod laidOut (by kernel_rfl) (of_decide_eq_true (by kernel_rfl)) h1 bel lt1) trodAll_mk0)), rfl, bel.frame _, fun h => by cases h⟩

theorem over : Rows.fnGameFoldRow.holds Try.pinned (OpenSpec.ofChange Rows.fnGameFoldSpec) :=
  OpenClaim.holds_of_wide 7 Try.f7 rfl rfl rfl rfl rfl rfl rfl ⟨rfl, rfl, rfl, rfl, rfl⟩ rfl rfl rfl rfl rfl (by kernel_rfl) Try.func7 (by kernel_rfl)
    (of_decide_eq_true (by kernel_rfl)) (by unfold Func.isWrapper; first | (rw [if_pos (by decide +kernel)]; kernel_rfl) | (rw [if_neg (by decide +kernel)]; exact ⟨rfl, rfl⟩))
    (fun os started H enc _ => lifted os started H enc)

theorem proved : Rows.FnGameFoldSaid := over
end Go.Proofs.Ytofedboeggdkaaa.fnGameFold
