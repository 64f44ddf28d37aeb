/- Contracts of the drawn requests; condition: fewer than 2^40 reads. -/
import Derived.Test.YtbfnilfkhonpaaaDoorDraw
namespace Go.Proofs.YtbfnilfkhonpaaaDoor
open Go.RowKit Go.Joins

/-- A valid request of a client from 1 to 3; the reader has moved on; nothing else has turned. -/
def ReqDrawn (w : World) (g P : Nat) (e : Ending) (w' : World) : Prop :=
  ∃ r : Rq, e = .returned (.agg #[.int .i64 r.c, .int .i64 r.n, .int .i64 r.o, .int .i64 r.x, .int .i64 r.y]) ∧ okB r.c r.n r.o r.x r.y = true ∧ r.c ≤ 3 ∧ Rdr w' g (P + 5) ∧ w.grownBy w' (some g)


set_option maxRecDepth 100000 in
set_option maxHeartbeats 2000000 in
theorem l20Req_c (w : World) (g P : Nat) (hr : Rdr w g P) (hP : P ≤ 1099511627000) :
    Calls Tryd.prog 83 #[.pointer (some ⟨g, 0, none⟩)] w (ReqDrawn w g P) := by
  have hlt := hr.lt
  go_enter Tryd.func83, Tryd.ntmps83
  go_wp2_with fail
  refine (pick_c _ g P 3 (hr.below (by repeat' (first | with_reducible exact Below.refl _ _ | with_reducible assumption | with_reducible refine Below.alloc ?_ ?_ _ | with_reducible refine Below.drew ?_ | with_reducible refine Below.setCell ?_ ?_ _ | omega | (simp; omega) | (simp; done)))) (by omega) (by omega)).mono ?_
  rintro e w1 ⟨v1, rfl, a1, b1, -, r1, k1⟩
  replace b1 := b1 (by omega)
  go_wp2_with fail
  refine (pick_c _ g (P + 1) 6 r1 (by omega) (by omega)).mono ?_
  rintro e w2 ⟨v2, rfl, a2, b2, -, r2, k2⟩
  replace b2 := b2 (by omega)
  go_wp2_with fail
  refine (pick_c _ g (P + 1 + 1) 5 r2 (by omega) (by omega)).mono ?_
  rintro e w3 ⟨v3, rfl, a3, b3, -, r3, k3⟩
  replace b3 := b3 (by omega)
  have k := grown_trans (grown_trans k1 k2) k3
  have hsz := k.size
  have hlt3 := r3.lt
  rw [World.size_alloc] at hsz
  have hne : w.heap.size ≠ g := by omega
  have hne3 : w3.heap.size ≠ g := by omega
  have hlt4 : w.heap.size < w3.heap.size := by omega
  have hlt5 : w.heap.size ≠ w3.heap.size := by omega
  have HR := Lib.hid (carry k hne (heap_alloc_new w _))
  have hc := cell_of_block HR.out
  have hf := unfrozen_of_block HR.out
  have K : w.grownBy w3 (some g) := grown_trans (grown_of_below (by repeat' (first | with_reducible exact Below.refl _ _ | with_reducible assumption | with_reducible refine Below.alloc ?_ ?_ _ | with_reducible refine Below.drew ?_ | with_reducible refine Below.setCell ?_ ?_ _ | omega | (simp; omega) | (simp; done))) _) k
  clear k1 k2 k3 r1 r2 k
  have h5 : v3 = 0 ∨ v3 = 1 ∨ v3 = 2 ∨ v3 = 3 ∨ v3 = 4 := by omega
  rcases h5 with rfl | rfl | rfl | rfl | rfl
  · go_wp2_with fail
    refine bodyPost_ret (v := .agg #[.int .i64 (1 + v1), .int .i64 (1 + v2), .int .i64 1, .int .i64 0, .int .i64 0]) (by simp [results, Tryd.results83, go_sem, hc, hlt4]) rfl ?_
    exact ⟨⟨1 + v1, 1 + v2, 1, 0, 0⟩, rfl, by simp [okB, inB]; omega, by show 1 + v1 ≤ 3; omega, (r3.below (by repeat' (first | with_reducible exact Below.refl _ _ | with_reducible assumption | with_reducible refine Below.alloc ?_ ?_ _ | with_reducible refine Below.drew ?_ | with_reducible refine Below.setCell ?_ ?_ _ | omega | (simp; omega) | (simp; done)))).mono (by omega), by repeat (first | with_reducible exact K | with_reducible refine grown_alloc ?_ _ | with_reducible refine grown_setCell ?_ (.inr (Nat.le_refl _)) _)⟩
  · go_wp2_with fail
    refine (pick_c _ g (P + 1 + 1 + 1) 3 (r3.below (by repeat' (first | with_reducible exact Below.refl _ _ | with_reducible assumption | with_reducible refine Below.alloc ?_ ?_ _ | with_reducible refine Below.drew ?_ | with_reducible refine Below.setCell ?_ ?_ _ | omega | (simp; omega) | (simp; done)))) (by omega) (by omega)).mono ?_
    rintro e w4 ⟨v4, rfl, a4, b4, -, r4, k4⟩
    replace b4 := b4 (by omega)
    have hs4 := k4.size
    rw [World.size_alloc] at hs4
    have hl4 : w3.heap.size < w4.heap.size := by omega
    have hX := carry k4 hne3 (heap_alloc_new w3 _)
    have hcX := cell_of_block hX
    have hfX := unfrozen_of_block hX
    have HX := Lib.hid hX
    have HR4 := Lib.hid (carry k4 hne (by rw [Below.heap_alloc _ _ _ hlt4]; exact HR.out))
    have K4 : w.grownBy w4 (some g) := grown_trans (grown_alloc K _) k4
    clear hc hf hX k4 r3
    go_wp2_with fail
    refine (pick_c _ g (P + 1 + 1 + 1 + 1) 3 (r4.below (by repeat' (first | with_reducible exact Below.refl _ _ | with_reducible assumption | with_reducible refine Below.alloc ?_ ?_ _ | with_reducible refine Below.drew ?_ | with_reducible refine Below.setCell ?_ ?_ _ | omega | (simp; omega) | (simp; done)))) (by omega) (by omega)).mono ?_
    rintro e w5 ⟨v5, rfl, a5, b5, -, r5, k5⟩
    replace b5 := b5 (by omega)
    have hs5 := k5.size
    rw [World.size_setCell] at hs5
    have hX5 := carry k5 hne3 (block_setCell (i := 3) HX.out _)
    have HR5 := carry k5 hne (by rw [Below.heap_setCell _ _ _ _ (by simp; omega)]; exact HR4.out)
    have hc := cell_of_block HR5
    have hf := unfrozen_of_block HR5
    have hcX5 := cell_of_block hX5
    have hfX5 := unfrozen_of_block hX5
    have K5 : w.grownBy w5 (some g) := grown_trans (by repeat (first | with_reducible exact K4 | with_reducible refine grown_setCell ?_ (.inr (by simp; omega)) _)) k5
    clear hcX hfX hX5 HR5 k5 r4
    go_wp2_with fail
    refine bodyPost_ret (v := .agg #[.int .i64 (1 + v1), .int .i64 (1 + v2), .int .i64 2, .int .i64 (v4 - 1), .int .i64 (v5 - 1)]) (by simp [results, Tryd.results83, go_sem, hc]) rfl ?_
    exact ⟨⟨1 + v1, 1 + v2, 2, v4 - 1, v5 - 1⟩, rfl, by simp [okB, inB]; omega, by show 1 + v1 ≤ 3; omega, (r5.below (by repeat' (first | with_reducible exact Below.refl _ _ | with_reducible assumption | with_reducible refine Below.alloc ?_ ?_ _ | with_reducible refine Below.drew ?_ | with_reducible refine Below.setCell ?_ ?_ _ | omega | (simp; omega) | (simp; done)))).mono (by omega), by repeat (first | with_reducible exact K5 | with_reducible refine grown_alloc ?_ _ | with_reducible refine grown_setCell ?_ (.inr (by simp; try omega)) _)⟩
  · go_wp2_with fail
    refine bodyPost_ret (v := .agg #[.int .i64 (1 + v1), .int .i64 (1 + v2), .int .i64 3, .int .i64 0, .int .i64 0]) (by simp [results, Tryd.results83, go_sem, hc, hlt4]) rfl ?_
    exact ⟨⟨1 + v1, 1 + v2, 3, 0, 0⟩, rfl, by simp [okB, inB]; omega, by show 1 + v1 ≤ 3; omega, (r3.below (by repeat' (first | with_reducible exact Below.refl _ _ | with_reducible assumption | with_reducible refine Below.alloc ?_ ?_ _ | with_reducible refine Below.drew ?_ | with_reducible refine Below.setCell ?_ ?_ _ | omega | (simp; omega) | (simp; done)))).mono (by omega), by repeat (first | with_reducible exact K | with_reducible refine grown_alloc ?_ _ | with_reducible refine grown_setCell ?_ (.inr (Nat.le_refl _)) _)⟩
  · go_wp2_with fail
    refine (pick_c _ g (P + 1 + 1 + 1) 3 (r3.below (by repeat' (first | with_reducible exact Below.refl _ _ | with_reducible assumption | with_reducible refine Below.alloc ?_ ?_ _ | with_reducible refine Below.drew ?_ | with_reducible refine Below.setCell ?_ ?_ _ | omega | (simp; omega) | (simp; done)))) (by omega) (by omega)).mono ?_
    rintro e w4 ⟨v4, rfl, a4, b4, -, r4, k4⟩
    replace b4 := b4 (by omega)
    have hs4 := k4.size
    rw [World.size_alloc] at hs4
    have hl4 : w3.heap.size < w4.heap.size := by omega
    have hX := carry k4 hne3 (heap_alloc_new w3 _)
    have hcX := cell_of_block hX
    have hfX := unfrozen_of_block hX
    have HR4 := carry k4 hne (by rw [Below.heap_alloc _ _ _ hlt4]; exact HR.out)
    have hc4 := cell_of_block HR4
    have hf4 := unfrozen_of_block HR4
    have K4 : w.grownBy w4 (some g) := grown_trans (grown_alloc K _) k4
    clear hc hf hX k4 r3 HR4
    go_wp2_with fail
    refine bodyPost_ret (v := .agg #[.int .i64 (1 + v1), .int .i64 (1 + v2), .int .i64 4, .int .i64 (1 + v4), .int .i64 0]) (by simp [results, Tryd.results83, go_sem, hc4]) rfl ?_
    exact ⟨⟨1 + v1, 1 + v2, 4, 1 + v4, 0⟩, rfl, by simp [okB, inB]; omega, by show 1 + v1 ≤ 3; omega, (r4.below (by repeat' (first | with_reducible exact Below.refl _ _ | with_reducible assumption | with_reducible refine Below.alloc ?_ ?_ _ | with_reducible refine Below.drew ?_ | with_reducible refine Below.setCell ?_ ?_ _ | omega | (simp; omega) | (simp; done)))).mono (by omega), by repeat (first | with_reducible exact K4 | with_reducible refine grown_alloc ?_ _ | with_reducible refine grown_setCell ?_ (.inr (by simp; try omega)) _)⟩
  · go_wp2_with fail
    refine (pick_c _ g (P + 1 + 1 + 1) 3 (r3.below (by repeat' (first | with_reducible exact Below.refl _ _ | with_reducible assumption | with_reducible refine Below.alloc ?_ ?_ _ | with_reducible refine Below.drew ?_ | with_reducible refine Below.setCell ?_ ?_ _ | omega | (simp; omega) | (simp; done)))) (by omega) (by omega)).mono ?_
    rintro e w4 ⟨v4, rfl, a4, b4, -, r4, k4⟩
    replace b4 := b4 (by omega)
    have hs4 := k4.size
    rw [World.size_alloc] at hs4
    have hl4 : w3.heap.size < w4.heap.size := by omega
    have hX := carry k4 hne3 (heap_alloc_new w3 _)
    have hcX := cell_of_block hX
    have hfX := unfrozen_of_block hX
    have HX := Lib.hid hX
    have HR4 := Lib.hid (carry k4 hne (by rw [Below.heap_alloc _ _ _ hlt4]; exact HR.out))
    have K4 : w.grownBy w4 (some g) := grown_trans (grown_alloc K _) k4
    clear hc hf hX k4 r3
    go_wp2_with fail
    refine (pick_c _ g (P + 1 + 1 + 1 + 1) 3 (r4.below (by repeat' (first | with_reducible exact Below.refl _ _ | with_reducible assumption | with_reducible refine Below.alloc ?_ ?_ _ | with_reducible refine Below.drew ?_ | with_reducible refine Below.setCell ?_ ?_ _ | omega | (simp; omega) | (simp; done)))) (by omega) (by omega)).mono ?_
    rintro e w5 ⟨v5, rfl, a5, b5, -, r5, k5⟩
    replace b5 := b5 (by omega)
    have hs5 := k5.size
    rw [World.size_setCell] at hs5
    have hX5 := carry k5 hne3 (block_setCell (i := 3) HX.out _)
    have HR5 := carry k5 hne (by rw [Below.heap_setCell _ _ _ _ (by simp; omega)]; exact HR4.out)
    have hc := cell_of_block HR5
    have hf := unfrozen_of_block HR5
    have hcX5 := cell_of_block hX5
    have hfX5 := unfrozen_of_block hX5
    have K5 : w.grownBy w5 (some g) := grown_trans (by repeat (first | with_reducible exact K4 | with_reducible refine grown_setCell ?_ (.inr (by simp; omega)) _)) k5
    clear hcX hfX hX5 HR5 k5 r4
    go_wp2_with fail
    refine bodyPost_ret (v := .agg #[.int .i64 (1 + v1), .int .i64 (1 + v2), .int .i64 5, .int .i64 (1 + v4), .int .i64 (1 + v5)]) (by simp [results, Tryd.results83, go_sem, hc]) rfl ?_
    exact ⟨⟨1 + v1, 1 + v2, 5, 1 + v4, 1 + v5⟩, rfl, by simp [okB, inB]; omega, by show 1 + v1 ≤ 3; omega, (r5.below (by repeat' (first | with_reducible exact Below.refl _ _ | with_reducible assumption | with_reducible refine Below.alloc ?_ ?_ _ | with_reducible refine Below.drew ?_ | with_reducible refine Below.setCell ?_ ?_ _ | omega | (simp; omega) | (simp; done)))).mono (by omega), by repeat (first | with_reducible exact K5 | with_reducible refine grown_alloc ?_ _ | with_reducible refine grown_setCell ?_ (.inr (by simp; try omega)) _)⟩
end Go.Proofs.YtbfnilfkhonpaaaDoor
