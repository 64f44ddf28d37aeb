/- Contracts of strconv.Itoa and of the program's ReqPut; condition: the package variables as listed. -/
import Derived.Test.YtbfnilfkhonpaaaDoorPutReq
import Derived.Test.YtbfnilfkhonpaaaDoorAllOk
import Derived.Test.YtbfnilfkhonpaaaDoorEnv
import Derived.Test.YtbfnilfkhonpaaaDoorShelf
namespace Go.Proofs.YtbfnilfkhonpaaaDoor
open Go.RowKit Go.Joins

attribute [local go_sem ↓] eql_rq neq_rq

theorem below_grow (w : World) (k : Nat) (os : Array Obj) : Below w.heap.size w (Sort.grow (w.drewN k) os) :=
  ⟨rfl, rfl, rfl, by simp [Sort.grow], fun i hi => by simp [Sort.grow, Array.getElem?_append, hi]⟩
theorem Itoa_c (n : Int) (w : World) (h0 : -4611686018427387904 ≤ n) (h1 : n ≤ 4611686018427387904) (E : Env w) :
    Calls Tryd.prog 57 #[.int .i64 n] w fun e w' => e = .returned (.string ⟨(Lib.itoa n).toArray⟩) ∧ Below w.heap.size w w' := by
  refine (Tryd.strconv_Itoa n (by omega) (by omega) w E.pow).mono ?_
  rintro e w' ⟨he, k, os, rfl⟩
  exact ⟨he, below_grow w k os⟩

theorem join_put (sc sn sw sx sy : List UInt8) : Lib.join [sc, sn, sw, sx, sy] [32] = sc ++ [32] ++ sn ++ [32] ++ sw ++ [32] ++ sx ++ [32] ++ sy := by
  simp [Lib.join, List.append_assoc]

set_option maxRecDepth 100000 in
set_option maxHeartbeats 4000000 in
theorem ReqPut_c (c n o x y : Int) (w : World) (E : Env w) :
    Calls Tryd.prog 58 #[.agg #[.int .i64 c, .int .i64 n, .int .i64 o, .int .i64 x, .int .i64 y]] w fun e w' => e = .returned (.string ⟨(reqPutL ⟨c, n, o, x, y⟩).toArray⟩) ∧ Below w.heap.size w w' := by
  have EE := Lib.hid E
  clear E
  cases hn : eqR c n o x y 0 0 0 0 0 with
  | true =>
    go_enter Tryd.func58, Tryd.ntmps58
    go_wp2_with fail
    go_ret
    exact ⟨ret_str (by simp [reqPutL, noneB, hn]), (by repeat' (first | with_reducible exact Below.refl _ _ | with_reducible assumption | with_reducible refine Below.alloc ?_ ?_ _ | with_reducible refine Below.drew ?_ | with_reducible refine Below.setCell ?_ ?_ _ | omega | (simp; omega) | (simp; done)))⟩
  | false =>
    cases hk : okB c n o x y with
    | false =>
      go_enter Tryd.func58, Tryd.ntmps58
      go_wp2_with fail
      refine (ReqOk_c c n o x y _).mono ?_
      rintro e w1 ⟨rfl, k1⟩
      go_wp2_with fail
      go_ret
      exact ⟨ret_str (by simp [reqPutL, noneB, hn, hk]), below_next (by repeat' (first | with_reducible exact Below.refl _ _ | with_reducible assumption | with_reducible refine Below.alloc ?_ ?_ _ | with_reducible refine Below.drew ?_ | with_reducible refine Below.setCell ?_ ?_ _ | omega | (simp; omega) | (simp; done))) k1⟩
    | true =>
      have hB := okB_op hk
      obtain ⟨k, rfl⟩ := Int.eq_ofNat_of_zero_le hB.1
      have hk5 : k ≤ 5 := by omega
      have HP : Hid (reqPutL ⟨c, n, k, x, y⟩ = Lib.join [Lib.itoa c, Lib.itoa n, words.getD k [], Lib.itoa x, Lib.itoa y] [32]) := by
        show reqPutL ⟨c, n, k, x, y⟩ = _
        rw [join_put]
        simp [reqPutL, noneB, hn, hk, putL]
      have HC := Lib.hid (fun W E => Itoa_c c W (by omega) (by omega) E)
      have HN := Lib.hid (fun W E => Itoa_c n W (by omega) (by omega) E)
      have HX := Lib.hid (fun W E => Itoa_c x W (by omega) (by omega) E)
      have HY := Lib.hid (fun W E => Itoa_c y W (by omega) (by omega) E)
      have lc := itoa_len c (by omega) (by omega)
      have ln := itoa_len n (by omega) (by omega)
      have lx := itoa_len x (by omega) (by omega)
      have ly := itoa_len y (by omega) (by omega)
      generalize Lib.itoa c = sc at *
      generalize Lib.itoa n = sn at *
      generalize Lib.itoa x = sx at *
      generalize Lib.itoa y = sy at *
      have hk0 : (0 : Int) ≤ (k : Int) := by omega
      have hk6 : (k : Int) < 6 := by omega
      clear hB
      go_enter Tryd.func58, Tryd.ntmps58
      go_wp2_with fail
      obtain ⟨W, hW, sW, aW, kW⟩ := blocks1 w (.cells #[.int .i64 c, .int .i64 n, .int .i64 k, .int .i64 x, .int .i64 y] 42)
      rw [← hW]
      clear hW
      refine (ReqOk_c c n k x y W).mono ?_
      rintro e w1 ⟨rfl, k1⟩
      have K1 := below_next kW k1
      have a1 := carryB k1 (by omega) aW
      have hc1 := cell_of_block a1
      rw [hk]
      go_wp2_with fail
      have E1 := EE.out.below K1
      obtain ⟨-, b, off, cap, hw0, hcap, hw1⟩ := E1
      have hwk := hw1 k (by omega)
      have hbl : b < w1.heap.size := World.block_lt_of_cell? w1 _ hwk
      have hgl : 0 < w1.heap.size := World.block_lt_of_cell? w1 _ hw0
      have hal := lt_of_block a1
      have lw : (words.getD k []).length ≤ 4 := by
        match k, hk5 with
        | 0, _ => decide
        | 1, _ => decide
        | 2, _ => decide
        | 3, _ => decide
        | 4, _ => decide
        | 5, _ => decide
      clear hw1
      generalize words.getD k [] = sw at *
      refine wp_region_held_drew (S := fun w' => (w'.cell? ⟨0, 0, none⟩ = some (.slice (some ⟨b, off, none⟩) 6 cap) ∧ w'.cell? ⟨b, off + k, none⟩ = some (.string ⟨sw.toArray⟩)) ∧ ∀ i, w'.cell? ⟨w.heap.size, i, none⟩ = #[.int .i64 c, .int .i64 n, .int .i64 k, .int .i64 x, .int .i64 y][i]?) (by kernel_rfl) ⟨⟨hw0, hwk⟩, hc1⟩ (fun hHeld => ?_)
      clear hcap hw0 hwk hc1 k1 a1 aW kW
      have SS : ∀ wa wb : World, w1.heap.size ≤ wa.heap.size → Below wa.heap.size wa wb → ((wa.cell? ⟨0, 0, none⟩ = some (.slice (some ⟨b, off, none⟩) 6 cap) ∧ wa.cell? ⟨b, off + k, none⟩ = some (.string ⟨sw.toArray⟩)) ∧ ∀ i, wa.cell? ⟨w.heap.size, i, none⟩ = #[.int .i64 c, .int .i64 n, .int .i64 k, .int .i64 x, .int .i64 y][i]?) → ((wb.cell? ⟨0, 0, none⟩ = some (.slice (some ⟨b, off, none⟩) 6 cap) ∧ wb.cell? ⟨b, off + k, none⟩ = some (.string ⟨sw.toArray⟩)) ∧ ∀ i, wb.cell? ⟨w.heap.size, i, none⟩ = #[.int .i64 c, .int .i64 n, .int .i64 k, .int .i64 x, .int .i64 y][i]?) := fun wa wb hl hb h => ⟨⟨((bcell hb).1 _ _ (by omega)).trans h.1.1, ((bcell hb).1 _ _ (by omega)).trans h.1.2⟩, fun i => ((bcell hb).1 _ i (by omega)).trans (h.2 i)⟩
      have SH := Lib.hid SS
      have K1d := below_next K1 (Below.drew (Below.refl w1.heap.size w1))
      clear SS
      refine wpAnyH_take (i := 0) (oi := _) (v := ?_) (by (simp only [List.getElem?_toArray]; rfl)) (by kernel_rfl) (by kernel_rfl) (by kernel_rfl) (by exact fun _ _ _ h => h) (Or.inl ⟨by rfl, ?_⟩) (by assumption) ?_
      rotate_left
      · intro wS hSw
        go_simp
        all_goals first | with_reducible rfl | rw [if_neg (by omega)]
      simp only [Act.put, List.setIfInBounds_toArray, List.set]
      refine wpAnyH_take (i := 1) (oi := _) (v := ?_) (by (simp only [List.getElem?_toArray]; rfl)) (by kernel_rfl) (by kernel_rfl) (by kernel_rfl) (by exact fun _ _ _ h => h) (Or.inl ⟨by rfl, ?_⟩) (by assumption) ?_
      rotate_left
      · intro wS hSw
        go_simp
        all_goals first | with_reducible rfl | rw [if_neg (by omega)]
      simp only [Act.put, List.setIfInBounds_toArray, List.set]
      refine wpAnyH_take (i := 3) (oi := _) (v := ?_) (by (simp only [List.getElem?_toArray]; rfl)) (by kernel_rfl) (by kernel_rfl) (by kernel_rfl) (by exact fun _ _ _ h => h) (Or.inl ⟨by rfl, ?_⟩) (by assumption) ?_
      rotate_left
      · intro wS hSw
        go_simp
        all_goals first | with_reducible rfl | rw [if_neg (by omega)]
      simp only [Act.put, List.setIfInBounds_toArray, List.set]
      refine wpAnyH_take (i := 4) (oi := _) (v := ?_) (by (simp only [List.getElem?_toArray]; rfl)) (by kernel_rfl) (by kernel_rfl) (by kernel_rfl) (by exact fun _ _ _ h => h) (Or.inl ⟨by rfl, ?_⟩) (by assumption) ?_
      rotate_left
      · intro wS hSw
        go_simp
        all_goals first | with_reducible rfl | rw [if_neg (by omega)]
      simp only [Act.put, List.setIfInBounds_toArray, List.set]
      refine wpAnyH_take (i := 6) (oi := _) (v := ?_) (by (simp only [List.getElem?_toArray]; rfl)) (by kernel_rfl) (by kernel_rfl) (by kernel_rfl) (by exact fun _ _ _ h => h) (Or.inl ⟨by rfl, ?_⟩) (by assumption) ?_
      rotate_left
      · intro wS hSw
        go_simp
        all_goals first | with_reducible rfl | rw [if_neg (by omega)]
      simp only [Act.put, List.setIfInBounds_toArray, List.set]
      refine wpAnyH_take (i := 7) (oi := _) (v := ?_) (by (simp only [List.getElem?_toArray]; rfl)) (by kernel_rfl) (by kernel_rfl) (by kernel_rfl) (by exact fun _ _ _ h => h) (Or.inl ⟨by rfl, ?_⟩) (by assumption) ?_
      rotate_left
      · intro wS hSw
        go_simp
        all_goals first | with_reducible rfl | rw [if_neg (by omega)]
      simp only [Act.put, List.setIfInBounds_toArray, List.set]
      refine wpAnyH_take (i := 8) (oi := _) (v := ?_) (by (simp only [List.getElem?_toArray]; rfl)) (by kernel_rfl) (by kernel_rfl) (by kernel_rfl) (by exact fun _ _ _ h => h) (Or.inl ⟨by rfl, ?_⟩) (by assumption) ?_
      rotate_left
      · intro wS hSw
        go_simp
        all_goals first | with_reducible rfl | rw [if_neg (by omega)]
      simp only [Act.put, List.setIfInBounds_toArray, List.set]
      refine wpAnyH_take (i := 9) (oi := _) (v := ?_) (by (simp only [List.getElem?_toArray]; rfl)) (by kernel_rfl) (by kernel_rfl) (by kernel_rfl) (by exact fun _ _ _ h => h) (Or.inl ⟨by rfl, ?_⟩) (by assumption) ?_
      rotate_left
      · intro wS hSw
        go_simp
        all_goals first | with_reducible rfl | rw [if_neg (by omega)]
      simp only [Act.put, List.setIfInBounds_toArray, List.set]
      refine wpAnyH_take (i := 10) (oi := _) (v := ?_) (by (simp only [List.getElem?_toArray]; rfl)) (by kernel_rfl) (by kernel_rfl) (by kernel_rfl) (by exact fun _ _ _ h => h) (Or.inl ⟨by rfl, ?_⟩) (by assumption) ?_
      rotate_left
      · intro wS hSw
        go_simp
        all_goals first | with_reducible rfl | rw [if_neg (by omega)]
      simp only [Act.put, List.setIfInBounds_toArray, List.set]
      refine wpAnyH_take (i := 11) (oi := _) (v := ?_) (by (simp only [List.getElem?_toArray]; rfl)) (by kernel_rfl) (by kernel_rfl) (by kernel_rfl) (by exact fun _ _ _ h => h) (Or.inl ⟨by rfl, ?_⟩) (by assumption) ?_
      rotate_left
      · intro wS hSw
        go_simp
        all_goals first | with_reducible rfl | rw [if_neg (by omega)]
      simp only [Act.put, List.setIfInBounds_toArray, List.set]
      refine wpAnyH_take (i := 12) (oi := _) (v := ?_) (by (simp only [List.getElem?_toArray]; rfl)) (by kernel_rfl) (by kernel_rfl) (by kernel_rfl) (by exact fun _ _ _ h => h) (Or.inl ⟨by rfl, ?_⟩) (by assumption) ?_
      rotate_left
      · intro wS hSw
        go_simp
        all_goals first | with_reducible rfl | rw [if_neg (by omega)]
      simp only [Act.put, List.setIfInBounds_toArray, List.set]
      refine wpAnyH_take (i := 14) (oi := _) (v := ?_) (by (simp only [List.getElem?_toArray]; rfl)) (by kernel_rfl) (by kernel_rfl) (by kernel_rfl) (by exact fun _ _ _ h => h) (Or.inl ⟨by rfl, ?_⟩) (by assumption) ?_
      rotate_left
      · intro wS hSw
        go_simp
        all_goals first | with_reducible rfl | rw [if_neg (by omega)]
      simp only [Act.put, List.setIfInBounds_toArray, List.set]
      refine wpAnyH_take (i := 15) (oi := _) (v := ?_) (by (simp only [List.getElem?_toArray]; rfl)) (by kernel_rfl) (by kernel_rfl) (by kernel_rfl) (by exact fun _ _ _ h => h) (Or.inl ⟨by rfl, ?_⟩) (by assumption) ?_
      rotate_left
      · intro wS hSw
        go_simp
        all_goals first | with_reducible rfl | rw [if_neg (by omega)]
      simp only [Act.put, List.setIfInBounds_toArray, List.set]
      refine wpAnyH_ready (rs := [2]) (by kernel_rfl) (by simp) ?_
      refine AllReadyH.cons (o := _) (by (simp only [List.getElem?_toArray]; rfl)) (fun K hK => ?_) AllReadyH.nil
      go_simp
      refine (HC.out w1.drew (EE.out.below K1d)).mono ?_
      rintro e w2 ⟨rfl, k2⟩
      have S2 := SH.out w1.drew w2 (Nat.le_refl _) k2 hHeld
      have K2 := below_next K1d k2
      have z2 : w1.heap.size ≤ w2.heap.size := k2.size
      clear hHeld
      refine hK.out _ _ S2 (fun hHeld => ?_)
      clear hK K
      try simp only [Act.put, List.setIfInBounds_toArray, List.set]
      refine wpAnyH_ready (rs := [5]) (by kernel_rfl) (by simp) ?_
      refine AllReadyH.cons (o := _) (by (simp only [List.getElem?_toArray]; rfl)) (fun K hK => ?_) AllReadyH.nil
      go_simp
      refine (HN.out w2 (EE.out.below K2)).mono ?_
      rintro e w3 ⟨rfl, k3⟩
      have S3 := SH.out _ _ z2 k3 hHeld
      have K3 := below_next K2 k3
      have z3 : w1.heap.size ≤ w3.heap.size := Nat.le_trans z2 k3.size
      clear hHeld S2 k2
      refine hK.out _ _ S3 (fun hHeld => ?_)
      clear hK K
      try simp only [Act.put, List.setIfInBounds_toArray, List.set]
      refine wpAnyH_ready (rs := [13]) (by kernel_rfl) (by simp) ?_
      refine AllReadyH.cons (o := _) (by (simp only [List.getElem?_toArray]; rfl)) (fun K hK => ?_) AllReadyH.nil
      go_simp
      refine (HX.out w3 (EE.out.below K3)).mono ?_
      rintro e w4 ⟨rfl, k4⟩
      have S4 := SH.out _ _ z3 k4 hHeld
      have K4 := below_next K3 k4
      have z4 : w1.heap.size ≤ w4.heap.size := Nat.le_trans z3 k4.size
      clear hHeld S3 k3
      refine hK.out _ _ S4 (fun hHeld => ?_)
      clear hK K
      try simp only [Act.put, List.setIfInBounds_toArray, List.set]
      refine wpAnyH_ready (rs := [16]) (by kernel_rfl) (by simp) ?_
      refine AllReadyH.cons (o := _) (by (simp only [List.getElem?_toArray]; rfl)) (fun K hK => ?_) AllReadyH.nil
      go_simp
      refine (HY.out w4 (EE.out.below K4)).mono ?_
      rintro e w5 ⟨rfl, k5⟩
      have S5 := SH.out _ _ z4 k5 hHeld
      have K5 := below_next K4 k5
      have z5 : w1.heap.size ≤ w5.heap.size := Nat.le_trans z4 k5.size
      clear hHeld S4 k4
      refine hK.out _ _ S5 (fun hHeld => ?_)
      clear hK K
      try simp only [Act.put, List.setIfInBounds_toArray, List.set]
      refine wpAnyH_ready (rs := [17]) (by kernel_rfl) (by simp) ?_
      refine AllReadyH.cons (o := _) (by (simp only [List.getElem?_toArray]; rfl)) (fun K hK => ?_) AllReadyH.nil
      go_simp
      obtain ⟨V, hV, sV, aV, kV⟩ := blocks1 w5 (.cells #[.string ⟨sc.toArray⟩, .string ⟨sn.toArray⟩, .string ⟨sw.toArray⟩, .string ⟨sx.toArray⟩, .string ⟨sy.toArray⟩] 9)
      rw [← hV]
      have SV := SH.out _ _ z5 kV hHeld
      have KV := below_next K5 kV
      clear hHeld S5 k5 hV
      refine hK.out _ _ SV (fun hHeld => ?_)
      clear hK K
      try simp only [Act.put, List.setIfInBounds_toArray, List.set]
      refine wpAnyH_ready (rs := [18]) (by kernel_rfl) (by simp) ?_
      refine AllReadyH.cons (o := _) (by (simp only [List.getElem?_toArray]; rfl)) (fun K hK => ?_) AllReadyH.nil
      go_simp
      refine (Tryd.strings_Join w5.heap.size 0 5 [⟨sc.toArray⟩, ⟨sn.toArray⟩, ⟨sw.toArray⟩, ⟨sx.toArray⟩, ⟨sy.toArray⟩] ⟨#[32]⟩ V ?_ (lt_of_block aV) (by simp) (by simp) ?_).mono ?_
      · intro j x hx
        rw [Nat.zero_add, cell_of_block aV]
        match j, hx with
        | 0, hx => simpa using hx
        | 1, hx => simpa using hx
        | 2, hx => simpa using hx
        | 3, hx => simpa using hx
        | 4, hx => simpa using hx
        | j + 5, hx => simp at hx
      · simp only [List.map_cons, List.map_nil]
        rw [show Lib.join [sc.toArray.toList, sn.toArray.toList, sw.toArray.toList, sx.toArray.toList, sy.toArray.toList] (#[32] : Array UInt8).toList = _ from join_put sc sn sw sx sy]
        simp only [List.length_append, List.length_cons, List.length_nil]
        omega
      rintro e w6 ⟨rfl, k6⟩
      have S6 := SH.out V w6 (by have := lt_of_block aV; omega) k6 hHeld
      have K6 := below_next KV k6
      clear hHeld SV k6
      refine hK.out _ _ S6 (fun hHeld => ?_)
      clear hK K
      try simp only [Act.put, List.setIfInBounds_toArray, List.set]
      refine wpAnyH_take (i := 19) (oi := _) (v := ?_) (by (simp only [List.getElem?_toArray]; rfl)) (by kernel_rfl) (by kernel_rfl) (by kernel_rfl) (by exact fun _ _ _ h => h) (Or.inl ⟨by rfl, ?_⟩) (by assumption) ?_
      rotate_left
      · intro wS hSw
        go_simp
        all_goals first | with_reducible rfl | rw [if_neg (by omega)]
      simp only [Act.put, List.setIfInBounds_toArray, List.set]
      refine wpAnyH_done (by kernel_rfl) ?_ _
      go_wp2_with fail
      go_ret
      exact ⟨ret_str (by rw [HP.out]), K6⟩
end Go.Proofs.YtbfnilfkhonpaaaDoor
