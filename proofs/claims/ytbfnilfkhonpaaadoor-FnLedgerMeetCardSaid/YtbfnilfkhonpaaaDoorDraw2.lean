/- Contracts of l20Open, one, l20AnyReq; condition: fewer than 2^40 reads. -/
import Derived.Test.YtbfnilfkhonpaaaDoorDrawReq
namespace Go.Proofs.YtbfnilfkhonpaaaDoor
open Go.RowKit Go.Joins

/-- A fresh reader over the bytes that came in. -/
def Opened (w : World) (e : Ending) (w' : World) : Prop :=
  ∃ g : Nat, e = .returned (.pointer (some ⟨g, 0, none⟩)) ∧ w.heap.size ≤ g ∧ Rdr w' g 0 ∧ Below w.heap.size w w'

set_option maxHeartbeats 400000 in
theorem l20Open_c (v : Value) (z : Bts) (w : World) (hz : IsBytes w v z) :
    Calls Tryd.prog 52 #[v] w (Opened w) := by
  obtain ⟨rfl, hlc, hm, hc⟩ := hz
  have HC := Lib.hid hc
  clear hc
  obtain ⟨a, len, cap⟩ := z
  simp only at hlc hm HC ⊢
  have hm' : cap ≤ 9223372036854775807 := by unfold maxLen at hm; omega
  by_cases hl : len ≤ 2000
  · go_enter Tryd.func52, Tryd.ntmps52
    go_wp2
    go_ret
    refine ⟨w.heap.size, rfl, Nat.le_refl _, ⟨a, len, cap, 0, heap_alloc_new w _, Nat.le_refl _, hl, hlc, hm, fun i hi => ?_⟩, (by repeat' (first | with_reducible exact Below.refl _ _ | with_reducible assumption | with_reducible refine Below.alloc ?_ ?_ _ | with_reducible refine Below.drew ?_ | with_reducible refine Below.setCell ?_ ?_ _ | omega | (simp; omega) | (simp; done)))⟩
    obtain ⟨b, off, x, h1, h2, h3, h4, h5⟩ := HC.out i hi
    exact ⟨b, off, x, h1, h2, h3, h4, by rw [(Below.alloc (Below.refl w.heap.size w) (Nat.le_refl _) _).cell (p := ⟨b, off + i, none⟩) h2]; exact h5⟩
  · obtain ⟨b, off, x, ha, _⟩ := HC.out 0 (by omega)
    subst ha
    go_enter Tryd.func52, Tryd.ntmps52
    go_wp2
    all_goals go_ret
    all_goals refine ⟨w.heap.size, rfl, Nat.le_refl _, ⟨some ⟨b, off, none⟩, 2000, cap, 0, heap_alloc_new w _, Nat.le_refl _, Nat.le_refl _, by omega, hm, fun i hi => ?_⟩, (by repeat' (first | with_reducible exact Below.refl _ _ | with_reducible assumption | with_reducible refine Below.alloc ?_ ?_ _ | with_reducible refine Below.drew ?_ | with_reducible refine Below.setCell ?_ ?_ _ | omega | (simp; omega) | (simp; done)))⟩
    all_goals obtain ⟨b, off, x, h1, h2, h3, h4, h5⟩ := HC.out i (by omega)
    all_goals exact ⟨b, off, x, h1, h2, h3, h4, by rw [(Below.alloc (Below.refl w.heap.size w) (Nat.le_refl _) _).cell (p := ⟨b, off + i, none⟩) h2]; exact h5⟩

/-- One of the numbers of a list. -/
def OneOf (zs : List Int) (w : World) (g P : Nat) (e : Ending) (w' : World) : Prop :=
  ∃ v : Int, v ∈ zs ∧ e = .returned (.int .i64 v) ∧ Rdr w' g (P + 1) ∧ w.grownBy w' (some g)

set_option maxHeartbeats 400000 in
theorem one_c (w : World) (g P h n : Nat) (t : TypeId) (zs : List Int) (cs : Array Value) (hr : Rdr w g P) (hP : P ≤ 1099511627776) (hne : h ≠ g) (hL : w.heap[h]? = some (.cells cs t (0, 0))) (hcs : cs = (zs.map (Value.int .i64)).toArray) (hn : zs.length = n) (h0 : 0 < n) (h1 : n ≤ 1000) :
    Calls Tryd.prog 94 #[.pointer (some ⟨g, 0, none⟩), .slice (some ⟨h, 0, none⟩) n n] w (OneOf zs w g P) := by
  have HL := Lib.hid hL
  have HN := Lib.hid hn
  have HCS := Lib.hid hcs
  clear hL hn hcs
  go_enter Tryd.func94, Tryd.ntmps94
  go_wp2_with fail
  refine (pick_c _ g P n hr hP (by omega)).mono ?_
  rintro e w1 ⟨v, rfl, a1, b1, -, r1, k1⟩
  replace b1 := b1 (by omega)
  have hL1 := carry k1 hne HL.out
  obtain ⟨m, rfl⟩ := Int.eq_ofNat_of_zero_le a1
  have hmn : m < n := by omega
  have hmz : m < zs.length := by rw [HN.out]; exact hmn
  have hc : w1.cell? ⟨h, m, none⟩ = some (.int .i64 zs[m]) := by
    rw [cell_of_block hL1, HCS.out]
    simp [hmz]
  clear hL1
  go_wp2_with fail
  go_ret
  exact ⟨zs[m], List.getElem_mem _, rfl, r1, k1⟩

/-- Some five numbers, small; the reader has moved on. -/
def AnyReq (w : World) (g P : Nat) (e : Ending) (w' : World) : Prop :=
  ∃ r : Rq, e = .returned (.agg #[.int .i64 r.c, .int .i64 r.n, .int .i64 r.o, .int .i64 r.x, .int .i64 r.y]) ∧ Rdr w' g (P + 7) ∧ w.grownBy w' (some g)

set_option maxRecDepth 100000 in
set_option maxHeartbeats 2000000 in
theorem l20AnyReq_c (w : World) (g P : Nat) (hr : Rdr w g P) (hP : P ≤ 1099511620000) :
    Calls Tryd.prog 73 #[.pointer (some ⟨g, 0, none⟩)] w (AnyReq w g P) := by
  have hlt := hr.lt
  go_enter Tryd.func73, Tryd.ntmps73
  go_wp2_with fail
  refine (l20Req_c _ g P (hr.below (by repeat' (first | with_reducible exact Below.refl _ _ | with_reducible assumption | with_reducible refine Below.alloc ?_ ?_ _ | with_reducible refine Below.drew ?_ | with_reducible refine Below.setCell ?_ ?_ _ | omega | (simp; omega) | (simp; done)))) (by omega)).mono ?_
  rintro e w1 ⟨r, rfl, -, -, r1, k1⟩
  have hs1 := k1.size
  have hlt1 := r1.lt
  rw [World.size_alloc] at hs1
  have hne : w.heap.size ≠ g := by omega
  have hne1 : w1.heap.size ≠ g := by omega
  have hl1 : w.heap.size < w1.heap.size := by omega
  have hl2 : w.heap.size ≠ w1.heap.size := by omega
  have HR := Lib.hid (carry k1 hne (heap_alloc_new w _))
  have K1 : w.grownBy w1 (some g) := grown_trans (grown_of_below (by repeat' (first | with_reducible exact Below.refl _ _ | with_reducible assumption | with_reducible refine Below.alloc ?_ ?_ _ | with_reducible refine Below.drew ?_ | with_reducible refine Below.setCell ?_ ?_ _ | omega | (simp; omega) | (simp; done))) _) k1
  clear k1
  go_wp2_with fail
  refine (pick_c _ g (P + 5) 12 (r1.below (by repeat' (first | with_reducible exact Below.refl _ _ | with_reducible assumption | with_reducible refine Below.alloc ?_ ?_ _ | with_reducible refine Below.drew ?_ | with_reducible refine Below.setCell ?_ ?_ _ | omega | (simp; omega) | (simp; done)))) (by omega) (by omega)).mono ?_
  rintro e w2 ⟨v2, rfl, a2, b2, -, r2, k2⟩
  replace b2 := b2 (by omega)
  have hs2 := k2.size
  rw [World.size_alloc] at hs2
  have hl3 : w1.heap.size < w2.heap.size := by omega
  have HX := Lib.hid (carry k2 hne1 (heap_alloc_new w1 _))
  have HR2 := Lib.hid (carry k2 hne (by rw [Below.heap_alloc _ _ _ hl1]; exact HR.out))
  have K2 : w.grownBy w2 (some g) := grown_trans (grown_alloc K1 _) k2
  have hc := cell_of_block HR2.out
  have hf := unfrozen_of_block HR2.out
  have hcX := cell_of_block HX.out
  have hfX := unfrozen_of_block HX.out
  clear k2 r1
  have h5 : v2 = 0 ∨ v2 = 1 ∨ v2 = 2 ∨ v2 = 3 ∨ v2 = 4 ∨ 5 ≤ v2 := by omega
  rcases h5 with rfl | rfl | rfl | rfl | rfl | h5
  · go_wp2_with fail
    refine bodyPost_ret (v := .agg #[.int .i64 0, .int .i64 0, .int .i64 0, .int .i64 0, .int .i64 0]) (by simp [results, Tryd.results73, go_sem, hc]) rfl ?_
    exact ⟨⟨0, 0, 0, 0, 0⟩, rfl, (r2.below (by repeat' (first | with_reducible exact Below.refl _ _ | with_reducible assumption | with_reducible refine Below.alloc ?_ ?_ _ | with_reducible refine Below.drew ?_ | with_reducible refine Below.setCell ?_ ?_ _ | omega | (simp; omega) | (simp; done)))).mono (by omega), by repeat (first | with_reducible exact K2 | with_reducible refine grown_alloc ?_ _ | with_reducible refine grown_setCell ?_ (.inr (by simp; try omega)) _)⟩
  · go_wp2_with fail
    refine (one_c _ g (P + 5 + 1) w2.heap.size 3 _ [0, 5, 4] _ (r2.below (by repeat' (first | with_reducible exact Below.refl _ _ | with_reducible assumption | with_reducible refine Below.alloc ?_ ?_ _ | with_reducible refine Below.drew ?_ | with_reducible refine Below.setCell ?_ ?_ _ | omega | (simp; omega) | (simp; done)))) (by omega) (by omega) (heap_alloc_new w2 _) rfl rfl (by decide) (by decide)).mono ?_
    rintro e w3 ⟨v3, -, rfl, r3, k3⟩
    have hs3 := k3.size
    rw [World.size_alloc] at hs3
    have hX3 := carry k3 hne1 (by rw [Below.heap_alloc _ _ _ hl3]; exact HX.out)
    have hR3 := carry k3 hne (by rw [Below.heap_alloc _ _ _ (by omega)]; exact HR2.out)
    have K3 : w.grownBy w3 (some g) := grown_trans (grown_alloc K2 _) k3
    clear hc hf hcX hfX k3
    have hc := cell_of_block hR3
    have hf := unfrozen_of_block hR3
    have hcX := cell_of_block hX3
    have hfX := unfrozen_of_block hX3
    clear hX3 hR3
    go_wp2_with fail
    refine bodyPost_ret (v := .agg #[.int .i64 v3, .int .i64 r.n, .int .i64 r.o, .int .i64 r.x, .int .i64 r.y]) (by simp [results, Tryd.results73, go_sem, hc]) rfl ?_
    exact ⟨⟨v3, r.n, r.o, r.x, r.y⟩, rfl, (r3.below (by repeat' (first | with_reducible exact Below.refl _ _ | with_reducible assumption | with_reducible refine Below.alloc ?_ ?_ _ | with_reducible refine Below.drew ?_ | with_reducible refine Below.setCell ?_ ?_ _ | omega | (simp; omega) | (simp; done)))).mono (by omega), by repeat (first | with_reducible exact K3 | with_reducible refine grown_alloc ?_ _ | with_reducible refine grown_setCell ?_ (.inr (by simp; try omega)) _)⟩
  · go_wp2_with fail
    refine (one_c _ g (P + 5 + 1) w2.heap.size 3 _ [0, 31, 30] _ (r2.below (by repeat' (first | with_reducible exact Below.refl _ _ | with_reducible assumption | with_reducible refine Below.alloc ?_ ?_ _ | with_reducible refine Below.drew ?_ | with_reducible refine Below.setCell ?_ ?_ _ | omega | (simp; omega) | (simp; done)))) (by omega) (by omega) (heap_alloc_new w2 _) rfl rfl (by decide) (by decide)).mono ?_
    rintro e w3 ⟨v3, -, rfl, r3, k3⟩
    have hs3 := k3.size
    rw [World.size_alloc] at hs3
    have hX3 := carry k3 hne1 (by rw [Below.heap_alloc _ _ _ hl3]; exact HX.out)
    have hR3 := carry k3 hne (by rw [Below.heap_alloc _ _ _ (by omega)]; exact HR2.out)
    have K3 : w.grownBy w3 (some g) := grown_trans (grown_alloc K2 _) k3
    clear hc hf hcX hfX k3
    have hc := cell_of_block hR3
    have hf := unfrozen_of_block hR3
    have hcX := cell_of_block hX3
    have hfX := unfrozen_of_block hX3
    clear hX3 hR3
    go_wp2_with fail
    refine bodyPost_ret (v := .agg #[.int .i64 r.c, .int .i64 v3, .int .i64 r.o, .int .i64 r.x, .int .i64 r.y]) (by simp [results, Tryd.results73, go_sem, hc]) rfl ?_
    exact ⟨⟨r.c, v3, r.o, r.x, r.y⟩, rfl, (r3.below (by repeat' (first | with_reducible exact Below.refl _ _ | with_reducible assumption | with_reducible refine Below.alloc ?_ ?_ _ | with_reducible refine Below.drew ?_ | with_reducible refine Below.setCell ?_ ?_ _ | omega | (simp; omega) | (simp; done)))).mono (by omega), by repeat (first | with_reducible exact K3 | with_reducible refine grown_alloc ?_ _ | with_reducible refine grown_setCell ?_ (.inr (by simp; try omega)) _)⟩
  · go_wp2_with fail
    refine (one_c _ g (P + 5 + 1) w2.heap.size 2 _ [0, 6] _ (r2.below (by repeat' (first | with_reducible exact Below.refl _ _ | with_reducible assumption | with_reducible refine Below.alloc ?_ ?_ _ | with_reducible refine Below.drew ?_ | with_reducible refine Below.setCell ?_ ?_ _ | omega | (simp; omega) | (simp; done)))) (by omega) (by omega) (heap_alloc_new w2 _) rfl rfl (by decide) (by decide)).mono ?_
    rintro e w3 ⟨v3, -, rfl, r3, k3⟩
    have hs3 := k3.size
    rw [World.size_alloc] at hs3
    have hX3 := carry k3 hne1 (by rw [Below.heap_alloc _ _ _ hl3]; exact HX.out)
    have hR3 := carry k3 hne (by rw [Below.heap_alloc _ _ _ (by omega)]; exact HR2.out)
    have K3 : w.grownBy w3 (some g) := grown_trans (grown_alloc K2 _) k3
    clear hc hf hcX hfX k3
    have hc := cell_of_block hR3
    have hf := unfrozen_of_block hR3
    have hcX := cell_of_block hX3
    have hfX := unfrozen_of_block hX3
    clear hX3 hR3
    go_wp2_with fail
    refine bodyPost_ret (v := .agg #[.int .i64 r.c, .int .i64 r.n, .int .i64 v3, .int .i64 r.x, .int .i64 r.y]) (by simp [results, Tryd.results73, go_sem, hc]) rfl ?_
    exact ⟨⟨r.c, r.n, v3, r.x, r.y⟩, rfl, (r3.below (by repeat' (first | with_reducible exact Below.refl _ _ | with_reducible assumption | with_reducible refine Below.alloc ?_ ?_ _ | with_reducible refine Below.drew ?_ | with_reducible refine Below.setCell ?_ ?_ _ | omega | (simp; omega) | (simp; done)))).mono (by omega), by repeat (first | with_reducible exact K3 | with_reducible refine grown_alloc ?_ _ | with_reducible refine grown_setCell ?_ (.inr (by simp; try omega)) _)⟩
  · go_wp2_with fail
    refine (one_c _ g (P + 5 + 1) w2.heap.size 3 _ [-2, 2, 5] _ (r2.below (by repeat' (first | with_reducible exact Below.refl _ _ | with_reducible assumption | with_reducible refine Below.alloc ?_ ?_ _ | with_reducible refine Below.drew ?_ | with_reducible refine Below.setCell ?_ ?_ _ | omega | (simp; omega) | (simp; done)))) (by omega) (by omega) (heap_alloc_new w2 _) rfl rfl (by decide) (by decide)).mono ?_
    rintro e w3 ⟨v3, -, rfl, r3, k3⟩
    have hs3 := k3.size
    rw [World.size_alloc] at hs3
    have hX3 := carry k3 hne1 (by rw [Below.heap_alloc _ _ _ hl3]; exact HX.out)
    have hR3 := carry k3 hne (by rw [Below.heap_alloc _ _ _ (by omega)]; exact HR2.out)
    have K3 : w.grownBy w3 (some g) := grown_trans (grown_alloc K2 _) k3
    clear hc hf hcX hfX k3
    have hc := cell_of_block hR3
    have hf := unfrozen_of_block hR3
    have hcX := cell_of_block hX3
    have hfX := unfrozen_of_block hX3
    clear hX3 hR3
    go_wp2_with fail
    refine bodyPost_ret (v := .agg #[.int .i64 r.c, .int .i64 r.n, .int .i64 r.o, .int .i64 v3, .int .i64 r.y]) (by simp [results, Tryd.results73, go_sem, hc]) rfl ?_
    exact ⟨⟨r.c, r.n, r.o, v3, r.y⟩, rfl, (r3.below (by repeat' (first | with_reducible exact Below.refl _ _ | with_reducible assumption | with_reducible refine Below.alloc ?_ ?_ _ | with_reducible refine Below.drew ?_ | with_reducible refine Below.setCell ?_ ?_ _ | omega | (simp; omega) | (simp; done)))).mono (by omega), by repeat (first | with_reducible exact K3 | with_reducible refine grown_alloc ?_ _ | with_reducible refine grown_setCell ?_ (.inr (by simp; try omega)) _)⟩
  · have n0 : (v2 == 0) = false := by simp; omega
    have n1 : (v2 == 1) = false := by simp; omega
    have n2 : (v2 == 2) = false := by simp; omega
    have n3 : (v2 == 3) = false := by simp; omega
    have n4 : (v2 == 4) = false := by simp; omega
    go_wp2_with fail
    refine bodyPost_ret (v := .agg #[.int .i64 r.c, .int .i64 r.n, .int .i64 r.o, .int .i64 r.x, .int .i64 r.y]) (by simp [results, Tryd.results73, go_sem, hc]) rfl ?_
    exact ⟨r, rfl, (r2.below (by repeat' (first | with_reducible exact Below.refl _ _ | with_reducible assumption | with_reducible refine Below.alloc ?_ ?_ _ | with_reducible refine Below.drew ?_ | with_reducible refine Below.setCell ?_ ?_ _ | omega | (simp; omega) | (simp; done)))).mono (by omega), by repeat (first | with_reducible exact K2 | with_reducible refine grown_alloc ?_ _ | with_reducible refine grown_setCell ?_ (.inr (by simp; try omega)) _)⟩
end Go.Proofs.YtbfnilfkhonpaaaDoor
