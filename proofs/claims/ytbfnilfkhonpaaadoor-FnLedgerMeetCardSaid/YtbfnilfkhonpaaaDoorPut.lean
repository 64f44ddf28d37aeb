/- Contracts of l1Words, l1Put and the reference's ReqPut; condition: 64-bit numbers. -/
import Derived.Test.YtbfnilfkhonpaaaDoorDec
namespace Go.Proofs.YtbfnilfkhonpaaaDoor
open Go.RowKit Go.Joins

theorem wpAnyH_weaken {P : Program} {md : Region.Mode} {ops : Array Oper} {Q : Exit → Act → World → Prop} {S S' : World → Prop} (hs : ∀ w, S' w → S w) :
    ∀ (fuel : Nat) (listed : Array Bool) (a : Act) (w : World), wpAnyH P md ops Q S' fuel listed a w → wpAnyH P md ops Q S fuel listed a w
  | 0, _, _, _, h => h
  | fuel + 1, _, _, _, h => ⟨h.1, fun i hi => wpOp_mono (fun a' w' h' => ⟨hs w' h'.1, wpAnyH_weaken hs fuel _ a' w' h'.2⟩) (h.2 i hi)⟩

set_option maxRecDepth 100000 in
set_option maxHeartbeats 400000 in
theorem decNeg (u : Nat) (w : World) (h1 : 1 ≤ u) (h2 : u ≤ 4611686018427387904) :
    Calls Tryd.prog 64 #[.int .i64 (-(u : Int))] w fun e w' => e = .returned (.string ⟨(45 :: Lib.decDigits u).toArray⟩) ∧ Below w.heap.size w w' := by
  have hlen : (Lib.decDigits u).length ≤ 20 := by rw [Lib.decDigits_length]; exact Lib.nDigits_le20 _ (by omega)
  have HD := Lib.hid (fun W => decPos u u W (Nat.le_refl _) (by omega))
  go_enter Tryd.func64, Tryd.ntmps64
  go_wp2_with fail
  refine (HD.out _).mono ?_
  rintro e w1 ⟨rfl, k1⟩
  go_wp2_with fail
  go_ret
  refine ⟨ret_str ?_, k1⟩
  apply ByteArray.ext
  simp

theorem l1Dec_c (n : Int) (w : World) (h0 : -4611686018427387904 ≤ n) (h1 : n ≤ 4611686018427387904) :
    Calls Tryd.prog 64 #[.int .i64 n] w fun e w' => e = .returned (.string ⟨(Lib.itoa n).toArray⟩) ∧ Below w.heap.size w w' := by
  by_cases hn : 0 ≤ n
  · obtain ⟨u, rfl⟩ := Int.eq_ofNat_of_zero_le hn
    have e : Lib.itoa (u : Int) = Lib.decDigits u := by unfold Lib.itoa; rw [if_neg (by omega)]; simp
    rw [e]
    exact decPos u u w (Nat.le_refl _) (by omega)
  · obtain ⟨u, hu⟩ := Int.eq_ofNat_of_zero_le (show 0 ≤ -n by omega)
    obtain rfl : n = -(u : Int) := by omega
    have e : Lib.itoa (-(u : Int)) = 45 :: Lib.decDigits u := by unfold Lib.itoa; rw [if_pos (by omega)]; simp
    rw [e]
    exact decNeg u w (by omega) (by omega)

theorem itoa_len (n : Int) (h0 : -4611686018427387904 ≤ n) (h1 : n ≤ 4611686018427387904) : (Lib.itoa n).length ≤ 21 := Lib.itoa_length_le n (by omega) (by omega)

/-- The words of the operations. -/
def words : List (List UInt8) := [[], [106, 111, 105, 110], [109, 111, 118, 101], [116, 97, 107, 101], [104, 105, 116], [103, 105, 118, 101]]
def wordsBlock : Obj := .cells #[.string ⟨#[]⟩, .string ⟨#[106, 111, 105, 110]⟩, .string ⟨#[109, 111, 118, 101]⟩, .string ⟨#[116, 97, 107, 101]⟩, .string ⟨#[104, 105, 116]⟩, .string ⟨#[103, 105, 118, 101]⟩] 9 (0, 0)
set_option maxHeartbeats 400000 in
theorem l1Words_c (w : World) : Calls Tryd.prog 76 #[] w fun e w' => e = .returned (.slice (some ⟨w.heap.size, 0, none⟩) 6 6) ∧ w'.heap[w.heap.size]? = some wordsBlock ∧ Below w.heap.size w w' := by
  go_enter Tryd.func76, Tryd.ntmps76
  go_wp2
  go_ret
  exact ⟨rfl, heap_alloc_new w _, (by repeat' (first | with_reducible exact Below.refl _ _ | with_reducible assumption | with_reducible refine Below.alloc ?_ ?_ _ | with_reducible refine Below.drew ?_ | with_reducible refine Below.setCell ?_ ?_ _ | omega | (simp; omega) | (simp; done)))⟩
/-- What is written of a request. -/
def putL (c n o x y : Int) : List UInt8 := Lib.itoa c ++ [32] ++ Lib.itoa n ++ [32] ++ words.getD o.toNat [] ++ [32] ++ Lib.itoa x ++ [32] ++ Lib.itoa y

set_option maxRecDepth 100000 in
set_option maxHeartbeats 1000000 in
theorem l1Put_c (c n o x y : Int) (w : World) (ho0 : 0 ≤ o) (ho1 : o ≤ 5)
    (hc0 : -4611686018427387904 ≤ c) (hc1 : c ≤ 4611686018427387904) (hn0 : -4611686018427387904 ≤ n) (hn1 : n ≤ 4611686018427387904)
    (hx0 : -4611686018427387904 ≤ x) (hx1 : x ≤ 4611686018427387904) (hy0 : -4611686018427387904 ≤ y) (hy1 : y ≤ 4611686018427387904) :
    Calls Tryd.prog 77 #[.agg #[.int .i64 c, .int .i64 n, .int .i64 o, .int .i64 x, .int .i64 y]] w fun e w' => e = .returned (.string ⟨(putL c n o x y).toArray⟩) ∧ Below w.heap.size w w' := by
  have HC := Lib.hid (fun W => l1Dec_c c W hc0 hc1)
  have HN := Lib.hid (fun W => l1Dec_c n W hn0 hn1)
  have HX := Lib.hid (fun W => l1Dec_c x W hx0 hx1)
  have HY := Lib.hid (fun W => l1Dec_c y W hy0 hy1)
  have lc := itoa_len c hc0 hc1
  have ln := itoa_len n hn0 hn1
  have lx := itoa_len x hx0 hx1
  have ly := itoa_len y hy0 hy1
  have HP : Hid (putL c n o x y = Lib.itoa c ++ [32] ++ Lib.itoa n ++ [32] ++ words.getD o.toNat [] ++ [32] ++ Lib.itoa x ++ [32] ++ Lib.itoa y) := rfl
  generalize Lib.itoa c = sc at *
  generalize Lib.itoa n = sn at *
  generalize Lib.itoa x = sx at *
  generalize Lib.itoa y = sy at *
  obtain ⟨k, rfl⟩ := Int.eq_ofNat_of_zero_le ho0
  have hk5 : k ≤ 5 := by omega
  have hk0 : (0 : Int) ≤ (k : Int) := by omega
  have hk6 : (k : Int) < 6 := by omega
  clear hc0 hc1 hn0 hn1 hx0 hx1 hy0 hy1 ho0 ho1
  go_enter Tryd.func77, Tryd.ntmps77
  go_wp2_with fail
  obtain ⟨W, hW, sW, aW, kW⟩ := blocks1 w (.cells #[.int .i64 c, .int .i64 n, .int .i64 k, .int .i64 x, .int .i64 y] 42)
  rw [← hW]
  clear hW
  have hcd := cell_of_block (show W.drew.heap[w.heap.size]? = _ from aW)
  have hl : w.heap.size < W.drew.heap.size := by simp; omega
  refine wp_region_held_drew (S := fun w' => ∀ i, w'.cell? ⟨w.heap.size, i, none⟩ = #[.int .i64 c, .int .i64 n, .int .i64 k, .int .i64 x, .int .i64 y][i]?) (by kernel_rfl) hcd (fun hHeld => ?_)
  clear aW
  refine wpAnyH_take (i := 0) (oi := _) (v := ?_) (by (simp only [List.getElem?_toArray]; rfl)) (by kernel_rfl) (by kernel_rfl) (by kernel_rfl) (by exact fun _ _ _ h => h) (Or.inl ⟨by rfl, ?_⟩) (by assumption) ?_
  rotate_left
  · intro wS hSw
    go_simp
    all_goals first | with_reducible rfl | rw [if_neg (by omega)]
  simp only [Act.put, List.setIfInBounds_toArray, List.set]
  refine wpAnyH_take (i := 1) (oi := _) (v := ?_) (by (simp only [List.getElem?_toArray]; rfl)) (by kernel_rfl) (by kernel_rfl) (by kernel_rfl) (by exact fun _ _ _ h => h) (Or.inl ⟨by rfl, ?_⟩) (by assumption) ?_
  rotate_left
  · intro wS hSw
    go_simp
    all_goals first | with_reducible rfl | rw [if_neg (by omega)]
  simp only [Act.put, List.setIfInBounds_toArray, List.set]
  refine wpAnyH_take (i := 4) (oi := _) (v := ?_) (by (simp only [List.getElem?_toArray]; rfl)) (by kernel_rfl) (by kernel_rfl) (by kernel_rfl) (by exact fun _ _ _ h => h) (Or.inl ⟨by rfl, ?_⟩) (by assumption) ?_
  rotate_left
  · intro wS hSw
    go_simp
    all_goals first | with_reducible rfl | rw [if_neg (by omega)]
  simp only [Act.put, List.setIfInBounds_toArray, List.set]
  refine wpAnyH_take (i := 5) (oi := _) (v := ?_) (by (simp only [List.getElem?_toArray]; rfl)) (by kernel_rfl) (by kernel_rfl) (by kernel_rfl) (by exact fun _ _ _ h => h) (Or.inl ⟨by rfl, ?_⟩) (by assumption) ?_
  rotate_left
  · intro wS hSw
    go_simp
    all_goals first | with_reducible rfl | rw [if_neg (by omega)]
  simp only [Act.put, List.setIfInBounds_toArray, List.set]
  refine wpAnyH_take (i := 10) (oi := _) (v := ?_) (by (simp only [List.getElem?_toArray]; rfl)) (by kernel_rfl) (by kernel_rfl) (by kernel_rfl) (by exact fun _ _ _ h => h) (Or.inl ⟨by rfl, ?_⟩) (by assumption) ?_
  rotate_left
  · intro wS hSw
    go_simp
    all_goals first | with_reducible rfl | rw [if_neg (by omega)]
  simp only [Act.put, List.setIfInBounds_toArray, List.set]
  refine wpAnyH_take (i := 11) (oi := _) (v := ?_) (by (simp only [List.getElem?_toArray]; rfl)) (by kernel_rfl) (by kernel_rfl) (by kernel_rfl) (by exact fun _ _ _ h => h) (Or.inl ⟨by rfl, ?_⟩) (by assumption) ?_
  rotate_left
  · intro wS hSw
    go_simp
    all_goals first | with_reducible rfl | rw [if_neg (by omega)]
  simp only [Act.put, List.setIfInBounds_toArray, List.set]
  refine wpAnyH_take (i := 16) (oi := _) (v := ?_) (by (simp only [List.getElem?_toArray]; rfl)) (by kernel_rfl) (by kernel_rfl) (by kernel_rfl) (by exact fun _ _ _ h => h) (Or.inl ⟨by rfl, ?_⟩) (by assumption) ?_
  rotate_left
  · intro wS hSw
    go_simp
    all_goals first | with_reducible rfl | rw [if_neg (by omega)]
  simp only [Act.put, List.setIfInBounds_toArray, List.set]
  refine wpAnyH_take (i := 17) (oi := _) (v := ?_) (by (simp only [List.getElem?_toArray]; rfl)) (by kernel_rfl) (by kernel_rfl) (by kernel_rfl) (by exact fun _ _ _ h => h) (Or.inl ⟨by rfl, ?_⟩) (by assumption) ?_
  rotate_left
  · intro wS hSw
    go_simp
    all_goals first | with_reducible rfl | rw [if_neg (by omega)]
  simp only [Act.put, List.setIfInBounds_toArray, List.set]
  refine wpAnyH_take (i := 21) (oi := _) (v := ?_) (by (simp only [List.getElem?_toArray]; rfl)) (by kernel_rfl) (by kernel_rfl) (by kernel_rfl) (by exact fun _ _ _ h => h) (Or.inl ⟨by rfl, ?_⟩) (by assumption) ?_
  rotate_left
  · intro wS hSw
    go_simp
    all_goals first | with_reducible rfl | rw [if_neg (by omega)]
  simp only [Act.put, List.setIfInBounds_toArray, List.set]
  refine wpAnyH_take (i := 22) (oi := _) (v := ?_) (by (simp only [List.getElem?_toArray]; rfl)) (by kernel_rfl) (by kernel_rfl) (by kernel_rfl) (by exact fun _ _ _ h => h) (Or.inl ⟨by rfl, ?_⟩) (by assumption) ?_
  rotate_left
  · intro wS hSw
    go_simp
    all_goals first | with_reducible rfl | rw [if_neg (by omega)]
  simp only [Act.put, List.setIfInBounds_toArray, List.set]
  refine wpAnyH_ready (rs := [2]) (by kernel_rfl) (by simp) ?_
  refine AllReadyH.cons (o := _) (by (simp only [List.getElem?_toArray]; rfl)) (fun K hK => ?_) AllReadyH.nil
  go_simp
  refine (HC.out _).mono ?_
  rintro e w1 ⟨rfl, k1⟩
  have h1 : ∀ i, w1.cell? ⟨w.heap.size, i, none⟩ = #[.int .i64 c, .int .i64 n, .int .i64 k, .int .i64 x, .int .i64 y][i]? := fun i => ((bcell k1).1 _ i hl).trans (hcd i)
  have l1 : w.heap.size < w1.heap.size := Nat.lt_of_lt_of_le hl k1.size
  have K1 := below_next (below_next kW (Below.drew (Below.refl _ _))) k1
  refine hK.out _ _ h1 (fun hHeld => ?_)
  clear hK K
  try simp only [Act.put, List.setIfInBounds_toArray, List.set]
  refine wpAnyH_take (i := 3) (oi := _) (v := ?_) (by (simp only [List.getElem?_toArray]; rfl)) (by kernel_rfl) (by kernel_rfl) (by kernel_rfl) (by exact fun _ _ _ h => h) (Or.inl ⟨by rfl, ?_⟩) (by assumption) ?_
  rotate_left
  · intro wS hSw
    go_simp
    all_goals first | with_reducible rfl | rw [if_neg (by omega)]
  simp only [Act.put, List.setIfInBounds_toArray, List.set]
  refine wpAnyH_ready (rs := [6]) (by kernel_rfl) (by simp) ?_
  refine AllReadyH.cons (o := _) (by (simp only [List.getElem?_toArray]; rfl)) (fun K hK => ?_) AllReadyH.nil
  go_simp
  refine (HN.out _).mono ?_
  rintro e w2 ⟨rfl, k2⟩
  have h2 : ∀ i, w2.cell? ⟨w.heap.size, i, none⟩ = #[.int .i64 c, .int .i64 n, .int .i64 k, .int .i64 x, .int .i64 y][i]? := fun i => ((bcell k2).1 _ i l1).trans (h1 i)
  have l2 : w.heap.size < w2.heap.size := Nat.lt_of_lt_of_le l1 k2.size
  have K2 := below_next K1 k2
  refine hK.out _ _ h2 (fun hHeld => ?_)
  clear hK K
  try simp only [Act.put, List.setIfInBounds_toArray, List.set]
  clear h1 k1 K1 l1 k2
  refine wpAnyH_take (i := 7) (oi := _) (v := ?_) (by (simp only [List.getElem?_toArray]; rfl)) (by kernel_rfl) (by kernel_rfl) (by kernel_rfl) (by exact fun _ _ _ h => h) (Or.inl ⟨by rfl, ?_⟩) (by assumption) ?_
  rotate_left
  · intro wS hSw
    go_simp
    all_goals first | with_reducible rfl | rw [if_neg (by omega)]
  simp only [Act.put, List.setIfInBounds_toArray, List.set]
  refine wpAnyH_take (i := 8) (oi := _) (v := ?_) (by (simp only [List.getElem?_toArray]; rfl)) (by kernel_rfl) (by kernel_rfl) (by kernel_rfl) (by exact fun _ _ _ h => h) (Or.inl ⟨by rfl, ?_⟩) (by assumption) ?_
  rotate_left
  · intro wS hSw
    go_simp
    all_goals first | with_reducible rfl | rw [if_neg (by omega)]
  simp only [Act.put, List.setIfInBounds_toArray, List.set]
  refine wpAnyH_ready (rs := [9]) (by kernel_rfl) (by simp) ?_
  refine AllReadyH.cons (o := _) (by (simp only [List.getElem?_toArray]; rfl)) (fun K hK => ?_) AllReadyH.nil
  go_simp
  refine (l1Words_c _).mono ?_
  rintro e w3 ⟨rfl, hg, k3⟩
  have h3 : ∀ i, w3.cell? ⟨w.heap.size, i, none⟩ = #[.int .i64 c, .int .i64 n, .int .i64 k, .int .i64 x, .int .i64 y][i]? := fun i => ((bcell k3).1 _ i l2).trans (h2 i)
  have l3 : w2.heap.size < w3.heap.size := lt_of_block hg
  have K3 := below_next K2 k3
  refine hK.out _ _ h3 (fun hHeld => ?_)
  clear hK K
  try simp only [Act.put, List.setIfInBounds_toArray, List.set]
  have hwd : w3.cell? ⟨w2.heap.size, k, none⟩ = some (.string ⟨(words.getD k []).toArray⟩) := by
    rw [cell_of_block hg]
    match k, hk5 with
    | 0, _ => rfl
    | 1, _ => rfl
    | 2, _ => rfl
    | 3, _ => rfl
    | 4, _ => rfl
    | 5, _ => rfl
  refine wpAnyH_weaken (S' := fun w' => w'.cell? ⟨w2.heap.size, k, none⟩ = some (.string ⟨(words.getD k []).toArray⟩) ∧ ∀ i, w'.cell? ⟨w.heap.size, i, none⟩ = #[.int .i64 c, .int .i64 n, .int .i64 k, .int .i64 x, .int .i64 y][i]?) (fun _ h => h.2) _ _ _ _ ?_
  have hHeld := And.intro hwd h3
  clear h2 K2 k3 hg
  have lw : (words.getD k []).length ≤ 4 := by
    match k, hk5 with
    | 0, _ => decide
    | 1, _ => decide
    | 2, _ => decide
    | 3, _ => decide
    | 4, _ => decide
    | 5, _ => decide
  rw [show ((k : Int)).toNat = k from rfl] at HP
  generalize words.getD k [] = sw at *
  refine wpAnyH_take (i := 12) (oi := _) (v := ?_) (by (simp only [List.getElem?_toArray]; rfl)) (by kernel_rfl) (by kernel_rfl) (by kernel_rfl) (by exact fun _ _ _ h => h) (Or.inl ⟨by rfl, ?_⟩) (by assumption) ?_
  rotate_left
  · intro wS hSw
    go_simp
    all_goals first | with_reducible rfl | rw [if_neg (by omega)]
  simp only [Act.put, List.setIfInBounds_toArray, List.set]
  refine wpAnyH_take (i := 13) (oi := _) (v := ?_) (by (simp only [List.getElem?_toArray]; rfl)) (by kernel_rfl) (by kernel_rfl) (by kernel_rfl) (by exact fun _ _ _ h => h) (Or.inl ⟨by rfl, ?_⟩) (by assumption) ?_
  rotate_left
  · intro wS hSw
    go_simp
    all_goals first | with_reducible rfl | rw [if_neg (by omega)]
  simp only [Act.put, List.setIfInBounds_toArray, List.set]
  refine wpAnyH_take (i := 14) (oi := _) (v := ?_) (by (simp only [List.getElem?_toArray]; rfl)) (by kernel_rfl) (by kernel_rfl) (by kernel_rfl) (by exact fun _ _ _ h => h) (Or.inl ⟨by rfl, ?_⟩) (by assumption) ?_
  rotate_left
  · intro wS hSw
    go_simp
    all_goals first | with_reducible rfl | rw [if_neg (by omega)]
  simp only [Act.put, List.setIfInBounds_toArray, List.set]
  refine wpAnyH_take (i := 15) (oi := _) (v := ?_) (by (simp only [List.getElem?_toArray]; rfl)) (by kernel_rfl) (by kernel_rfl) (by kernel_rfl) (by exact fun _ _ _ h => h) (Or.inl ⟨by rfl, ?_⟩) (by assumption) ?_
  rotate_left
  · intro wS hSw
    go_simp
    all_goals first | with_reducible rfl | rw [if_neg (by omega)]
  simp only [Act.put, List.setIfInBounds_toArray, List.set]
  refine wpAnyH_ready (rs := [18]) (by kernel_rfl) (by simp) ?_
  refine AllReadyH.cons (o := _) (by (simp only [List.getElem?_toArray]; rfl)) (fun K hK => ?_) AllReadyH.nil
  go_simp
  refine (HX.out _).mono ?_
  rintro e w4 ⟨rfl, k4⟩
  have h4 : w4.cell? ⟨w2.heap.size, k, none⟩ = some (.string ⟨sw.toArray⟩) ∧ ∀ i, w4.cell? ⟨w.heap.size, i, none⟩ = #[.int .i64 c, .int .i64 n, .int .i64 k, .int .i64 x, .int .i64 y][i]? := ⟨((bcell k4).1 _ _ l3).trans hHeld.1, fun i => ((bcell k4).1 _ i (Nat.lt_trans l2 l3)).trans (hHeld.2 i)⟩
  have l4 : w3.heap.size ≤ w4.heap.size := k4.size
  have K4 := below_next K3 k4
  refine hK.out _ _ h4 (fun hHeld => ?_)
  clear hK K
  try simp only [Act.put, List.setIfInBounds_toArray, List.set]
  clear K3 k4 h3 hwd
  refine wpAnyH_take (i := 19) (oi := _) (v := ?_) (by (simp only [List.getElem?_toArray]; rfl)) (by kernel_rfl) (by kernel_rfl) (by kernel_rfl) (by exact fun _ _ _ h => h) (Or.inl ⟨by rfl, ?_⟩) (by assumption) ?_
  rotate_left
  · intro wS hSw
    go_simp
    all_goals first | with_reducible rfl | rw [if_neg (by omega)]
  simp only [Act.put, List.setIfInBounds_toArray, List.set]
  refine wpAnyH_take (i := 20) (oi := _) (v := ?_) (by (simp only [List.getElem?_toArray]; rfl)) (by kernel_rfl) (by kernel_rfl) (by kernel_rfl) (by exact fun _ _ _ h => h) (Or.inl ⟨by rfl, ?_⟩) (by assumption) ?_
  rotate_left
  · intro wS hSw
    go_simp
    all_goals first | with_reducible rfl | rw [if_neg (by omega)]
  simp only [Act.put, List.setIfInBounds_toArray, List.set]
  refine wpAnyH_ready (rs := [23]) (by kernel_rfl) (by simp) ?_
  refine AllReadyH.cons (o := _) (by (simp only [List.getElem?_toArray]; rfl)) (fun K hK => ?_) AllReadyH.nil
  go_simp
  refine (HY.out _).mono ?_
  rintro e w5 ⟨rfl, k5⟩
  have h5 : w5.cell? ⟨w2.heap.size, k, none⟩ = some (.string ⟨sw.toArray⟩) ∧ ∀ i, w5.cell? ⟨w.heap.size, i, none⟩ = #[.int .i64 c, .int .i64 n, .int .i64 k, .int .i64 x, .int .i64 y][i]? := ⟨((bcell k5).1 _ _ (by omega)).trans h4.1, fun i => ((bcell k5).1 _ i (by omega)).trans (h4.2 i)⟩
  have K5 := below_next K4 k5
  refine hK.out _ _ h5 (fun hHeld => ?_)
  clear hK K
  try simp only [Act.put, List.setIfInBounds_toArray, List.set]
  refine wpAnyH_take (i := 24) (oi := _) (v := ?_) (by (simp only [List.getElem?_toArray]; rfl)) (by kernel_rfl) (by kernel_rfl) (by kernel_rfl) (by exact fun _ _ _ h => h) (Or.inl ⟨by rfl, ?_⟩) (by assumption) ?_
  rotate_left
  · intro wS hSw
    go_simp
    all_goals first | with_reducible rfl | rw [if_neg (by omega)]
  simp only [Act.put, List.setIfInBounds_toArray, List.set]
  refine wpAnyH_take (i := 25) (oi := _) (v := ?_) (by (simp only [List.getElem?_toArray]; rfl)) (by kernel_rfl) (by kernel_rfl) (by kernel_rfl) (by exact fun _ _ _ h => h) (Or.inl ⟨by rfl, ?_⟩) (by assumption) ?_
  rotate_left
  · intro wS hSw
    go_simp
    all_goals first | with_reducible rfl | rw [if_neg (by omega)]
  simp only [Act.put, List.setIfInBounds_toArray, List.set]
  refine wpAnyH_done (by kernel_rfl) ?_ _
  go_wp2_with fail
  go_ret
  refine ⟨ret_str ?_, K5⟩
  rw [HP.out]
  apply ByteArray.ext
  simp
end Go.Proofs.YtbfnilfkhonpaaaDoor
