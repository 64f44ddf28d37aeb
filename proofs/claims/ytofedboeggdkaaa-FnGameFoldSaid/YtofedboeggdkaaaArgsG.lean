/- Contracts of toGame, szGame, eqGame; condition: at most 2^20 elements. -/
import Derived.Test.YtofedboeggdkaaaArgsA
namespace Go.Proofs.Ytofedboeggdkaaa
open Go.RowKit Go.Joins

/-- A game, anew: its blocks. -/
def GotGmB (z : Gm) (w : World) (e : Ending) (w' : World) : Prop :=
  ∃ g0 g1 g2, e = .returned (.agg #[.slice (some ⟨g0, 0, none⟩) z.es.length z.es.length, .slice (some ⟨g1, 0, none⟩) z.fl.length z.fl.length, .slice (some ⟨g2, 0, none⟩) z.la.length z.la.length]) ∧
    w'.heap[g0]? = some (.cells (flat Rq.cs z.es) 92 (0, 0)) ∧ w'.heap[g1]? = some (.cells (flat intR z.fl) 3 (0, 0)) ∧ w'.heap[g2]? = some (.cells (flat intR z.la) 3 (0, 0)) ∧ w.heap.size ≤ g0 ∧ g0 < g1 ∧ g1 < g2 ∧ Below w.heap.size w w'
/-- A game, anew. -/
def GotGm (z : Gm) (w : World) (e : Ending) (w' : World) : Prop :=
  ∃ g0 g1 g2, e = .returned (.agg #[.slice (some ⟨g0, 0, none⟩) z.es.length z.es.length, .slice (some ⟨g1, 0, none⟩) z.fl.length z.fl.length, .slice (some ⟨g2, 0, none⟩) z.la.length z.la.length]) ∧
    IsSl w' (.slice (some ⟨g0, 0, none⟩) z.es.length z.es.length) 5 Rq.cs z.es ∧ IsSl w' (.slice (some ⟨g1, 0, none⟩) z.fl.length z.fl.length) 1 intR z.fl ∧ IsSl w' (.slice (some ⟨g2, 0, none⟩) z.la.length z.la.length) 1 intR z.la ∧ Below w.heap.size w w'

set_option maxHeartbeats 2000000 in
theorem toGame_b (z : Gm) (a0 a1 a2 : Option Addr) (c0 c1 c2 : Nat) (w : World) (ha : IsSl w (.slice a0 z.es.length c0) 5 Rq.cs z.es) (hb : IsSl w (.slice a1 z.fl.length c1) 1 intR z.fl) (hd : IsSl w (.slice a2 z.la.length c2) 1 intR z.la)
    (hla : z.es.length ≤ 1048576) (hlb : z.fl.length ≤ 1048576) (hld : z.la.length ≤ 1048576) :
    Calls Try.prog 52 #[.agg #[.slice a0 z.es.length c0, .slice a1 z.fl.length c1, .slice a2 z.la.length c2]] w (GotGmB z w) := by
  obtain ⟨es, fl, la⟩ := z
  simp only at ha hb hd hla hlb hld ⊢
  generalize hn0 : es.length = n0 at *
  generalize hn1 : fl.length = n1 at *
  generalize hn2 : la.length = n2 at *
  go_enter Try.func52, Try.ntmps52
  go_wp2_with fail
  obtain ⟨W, hW, sW, aW, bW, cW, kW⟩ := blocks3 w (.cells #[.slice a0 n0 c0, .slice a1 n1 c1, .slice a2 n2 c2] 67) (.cells #[.slice none 0 0, .slice none 0 0, .slice none 0 0] 46) (.cells #[.slice none 0 0, .slice none 0 0, .slice none 0 0] 46)
  rw [← hW]
  clear hW
  have HB := Lib.hid hb
  have HD := Lib.hid hd
  refine (toEntS_c _ es _ (ha.below kW) (by omega)).mono ?_
  intro e w1 h1
  obtain ⟨rfl, h1, k1⟩ := h1
  rw [hn0]
  have K1 := below_next kW k1
  have s1 := k1.size
  have aW1 := carryB k1 (by omega) aW
  have bW1 := carryB k1 (by omega) bW
  have cW1 := carryB k1 (by omega) cW
  rw [sW] at h1 ⊢
  have hcA := cell_of_block aW1
  have hcC := cell_of_block cW1
  have hfC := unfrozen_of_block cW1
  have lW := lt_of_block h1
  clear aW bW cW ha hb hd kW k1
  go_wp2_with fail
  obtain ⟨X, hX, sX, cX, oX, kX⟩ := stored1 w1 (w.heap.size + 2) 0 (.slice (some ⟨w.heap.size + 3, 0, none⟩) n0 n0) cW1
  rw [← hX]
  clear hX
  have KX := K1.trans (kX.mono (by omega))
  have aX := (oX _ (by omega)).trans aW1
  have bX := (oX _ (by omega)).trans bW1
  have gX := (oX _ (by omega)).trans h1
  refine (toIntS_c _ fl _ (HB.out.below KX) (by omega)).mono ?_
  intro e w2 h2
  obtain ⟨rfl, h2, k2⟩ := h2
  rw [hn1]
  have K2 := below_next KX k2
  have s2 := k2.size
  have aX2 := carryB k2 (by omega) aX
  have bX2 := carryB k2 (by omega) bX
  have cX2 := carryB k2 (by omega) cX
  have gX2 := carryB k2 (by omega) gX
  rw [sX] at h2 ⊢
  clear aX bX cX gX k2 KX oX kX hcA hcC hfC aW1 bW1 cW1 h1 K1
  have hcA := cell_of_block aX2
  have hcC := cell_of_block cX2
  have hfC := unfrozen_of_block cX2
  have l2 := lt_of_block h2
  go_wp2_with fail
  obtain ⟨Y, hY, sY, cY, oY, kY⟩ := stored1 w2 (w.heap.size + 2) 1 (.slice (some ⟨w1.heap.size, 0, none⟩) n1 n1) cX2
  rw [← hY]
  clear hY
  have KY := K2.trans (kY.mono (by omega))
  have aY := (oY _ (by omega)).trans aX2
  have bY := (oY _ (by omega)).trans bX2
  have gY := (oY _ (by omega)).trans gX2
  have fY := (oY _ (by omega)).trans h2
  refine (toIntS_c _ la _ (HD.out.below KY) (by omega)).mono ?_
  intro e w3 h3
  obtain ⟨rfl, h3, k3⟩ := h3
  rw [hn2]
  have K3 := below_next KY k3
  have s3 := k3.size
  have bY3 := carryB k3 (by omega) bY
  have cY3 := carryB k3 (by omega) cY
  have gY3 := carryB k3 (by omega) gY
  have fY3 := carryB k3 (by omega) fY
  rw [sY] at h3 ⊢
  clear aY bY cY gY fY k3 KY oY kY hcA hcC hfC aX2 bX2 cX2 gX2 h2 K2
  have hcB := cell_of_block bY3
  have hfB := unfrozen_of_block bY3
  have hcC := cell_of_block cY3
  have hfC := unfrozen_of_block cY3
  have l3 := lt_of_block h3
  go_wp2_with fail
  have HK := Lib.hid K3
  refine bodyPost_ret (v := .agg #[.slice (some ⟨w.heap.size + 3, 0, none⟩) n0 n0, .slice (some ⟨w1.heap.size, 0, none⟩) n1 n1, .slice (some ⟨w2.heap.size, 0, none⟩) n2 n2]) (by simp [results, Try.results52, go_sem, hcB]) rfl ?_
  refine ⟨w.heap.size + 3, w1.heap.size, w2.heap.size, ?_, ?_, ?_, ?_, by omega, by omega, by omega, ?_⟩
  · rw [hn0, hn1, hn2]
  · repeat rw [Below.heap_setCell _ _ _ _ (by simp; try omega)]
    exact gY3
  · repeat rw [Below.heap_setCell _ _ _ _ (by simp; try omega)]
    exact fY3
  · repeat rw [Below.heap_setCell _ _ _ _ (by simp; try omega)]
    exact h3
  · replace K3 := HK.out
    exact (by repeat' (first | with_reducible exact Below.refl _ _ | with_reducible assumption | with_reducible refine Below.alloc ?_ ?_ _ | with_reducible refine Below.drew ?_ | with_reducible refine Below.setCell ?_ ?_ _ | omega | (simp; omega) | (simp; done)))
theorem toGame_c (z : Gm) (a0 a1 a2 : Option Addr) (c0 c1 c2 : Nat) (w : World) (ha : IsSl w (.slice a0 z.es.length c0) 5 Rq.cs z.es) (hb : IsSl w (.slice a1 z.fl.length c1) 1 intR z.fl) (hd : IsSl w (.slice a2 z.la.length c2) 1 intR z.la)
    (hla : z.es.length ≤ 1048576) (hlb : z.fl.length ≤ 1048576) (hld : z.la.length ≤ 1048576) :
    Calls Try.prog 52 #[.agg #[.slice a0 z.es.length c0, .slice a1 z.fl.length c1, .slice a2 z.la.length c2]] w (GotGm z w) :=
  (toGame_b z a0 a1 a2 c0 c1 c2 w ha hb hd hla hlb hld).mono fun _ _ ⟨g0, g1, g2, he, h0, h1, h2, _, _, _, k⟩ => ⟨g0, g1, g2, he, sl_of_block five_len h0 rfl hla, sl_of_block int_len h1 rfl hlb, sl_of_block int_len h2 rfl hld, k⟩

set_option maxHeartbeats 2000000 in
theorem szGame_c (a0 a1 a2 : Option Addr) (n0 n1 n2 c0 c1 c2 : Nat) (w : World) (h0 : n0 ≤ c0) (m0 : c0 ≤ maxLen) (h1 : n1 ≤ c1) (m1 : c1 ≤ maxLen) (h2 : n2 ≤ c2) (m2 : c2 ≤ maxLen) :
    Calls Try.prog 51 #[.agg #[.slice a0 n0 c0, .slice a1 n1 c1, .slice a2 n2 c2], .int .i64 1048576] w fun e w' =>
      e = .returned (.int .i64 (if n0 + n1 + n2 ≤ 1048576 then 1048576 - n0 - n1 - n2 else -1)) ∧ Below w.heap.size w w' := by
  have M0 := Lib.hid m0
  have M1 := Lib.hid m1
  have M2 := Lib.hid m2
  clear m0 m1 m2
  by_cases hA : n0 ≤ 1048576
  · have e0 : leftOf 1048576 n0 = 1048576 - n0 := by unfold leftOf; rw [if_neg (by omega)]
    by_cases hB : n0 + n1 ≤ 1048576
    · have e1 : leftOf (1048576 - n0) n1 = 1048576 - n0 - n1 := by unfold leftOf; rw [if_neg (by omega)]
      by_cases hC : n0 + n1 + n2 ≤ 1048576
      · have e2 : leftOf (1048576 - n0 - n1) n2 = 1048576 - n0 - n1 - n2 := by unfold leftOf; rw [if_neg (by omega)]
        go_enter Try.func51, Try.ntmps51
        go_wp2_with fail
        refine (szEntS_c _ _ _ _ _ h0 M0.out (by omega) (by omega)).mono ?_
        rintro e w1 ⟨rfl, rfl⟩
        rw [e0]
        go_wp2_with fail
        refine (szIntS_c _ _ _ _ _ h1 M1.out (by omega) (by omega)).mono ?_
        rintro e w1 ⟨rfl, rfl⟩
        rw [e1]
        go_wp2_with fail
        refine (szIntS_c _ _ _ _ _ h2 M2.out (by omega) (by omega)).mono ?_
        rintro e w1 ⟨rfl, rfl⟩
        rw [e2]
        go_wp2_with fail
        go_ret
        exact ⟨rfl, (by repeat' (first | with_reducible exact Below.refl _ _ | with_reducible assumption | with_reducible refine Below.alloc ?_ ?_ _ | with_reducible refine Below.drew ?_ | with_reducible refine Below.setCell ?_ ?_ _ | omega | (simp; omega) | (simp; done)))⟩
      · have e2 : leftOf (1048576 - n0 - n1) n2 = -1 := by unfold leftOf; rw [if_pos (by omega)]
        go_enter Try.func51, Try.ntmps51
        go_wp2_with fail
        refine (szEntS_c _ _ _ _ _ h0 M0.out (by omega) (by omega)).mono ?_
        rintro e w1 ⟨rfl, rfl⟩
        rw [e0]
        go_wp2_with fail
        refine (szIntS_c _ _ _ _ _ h1 M1.out (by omega) (by omega)).mono ?_
        rintro e w1 ⟨rfl, rfl⟩
        rw [e1]
        go_wp2_with fail
        refine (szIntS_c _ _ _ _ _ h2 M2.out (by omega) (by omega)).mono ?_
        rintro e w1 ⟨rfl, rfl⟩
        rw [e2]
        go_wp2_with fail
        go_ret
        exact ⟨rfl, (by repeat' (first | with_reducible exact Below.refl _ _ | with_reducible assumption | with_reducible refine Below.alloc ?_ ?_ _ | with_reducible refine Below.drew ?_ | with_reducible refine Below.setCell ?_ ?_ _ | omega | (simp; omega) | (simp; done)))⟩
    · have e1 : leftOf (1048576 - n0) n1 = -1 := by unfold leftOf; rw [if_pos (by omega)]
      have hC : ¬ n0 + n1 + n2 ≤ 1048576 := by omega
      go_enter Try.func51, Try.ntmps51
      go_wp2_with fail
      refine (szEntS_c _ _ _ _ _ h0 M0.out (by omega) (by omega)).mono ?_
      rintro e w1 ⟨rfl, rfl⟩
      rw [e0]
      go_wp2_with fail
      refine (szIntS_c _ _ _ _ _ h1 M1.out (by omega) (by omega)).mono ?_
      rintro e w1 ⟨rfl, rfl⟩
      rw [e1]
      go_wp2_with fail
      go_ret
      exact ⟨rfl, (by repeat' (first | with_reducible exact Below.refl _ _ | with_reducible assumption | with_reducible refine Below.alloc ?_ ?_ _ | with_reducible refine Below.drew ?_ | with_reducible refine Below.setCell ?_ ?_ _ | omega | (simp; omega) | (simp; done)))⟩
  · have e0 : leftOf 1048576 n0 = -1 := by unfold leftOf; rw [if_pos (by omega)]
    have hC : ¬ n0 + n1 + n2 ≤ 1048576 := by omega
    go_enter Try.func51, Try.ntmps51
    go_wp2_with fail
    refine (szEntS_c _ _ _ _ _ h0 M0.out (by omega) (by omega)).mono ?_
    rintro e w1 ⟨rfl, rfl⟩
    rw [e0]
    go_wp2_with fail
    go_ret
    exact ⟨rfl, (by repeat' (first | with_reducible exact Below.refl _ _ | with_reducible assumption | with_reducible refine Below.alloc ?_ ?_ _ | with_reducible refine Below.drew ?_ | with_reducible refine Below.setCell ?_ ?_ _ | omega | (simp; omega) | (simp; done)))⟩

set_option maxHeartbeats 1000000 in
theorem eqGame_c (z : Gm) (a0 a1 a2 b0 b1 b2 : Option Addr) (c0 c1 c2 d0 d1 d2 : Nat) (w : World) (ha0 : IsSl w (.slice a0 z.es.length c0) 5 Rq.cs z.es) (ha1 : IsSl w (.slice a1 z.fl.length c1) 1 intR z.fl) (ha2 : IsSl w (.slice a2 z.la.length c2) 1 intR z.la)
    (hb0 : IsSl w (.slice b0 z.es.length d0) 5 Rq.cs z.es) (hb1 : IsSl w (.slice b1 z.fl.length d1) 1 intR z.fl) (hb2 : IsSl w (.slice b2 z.la.length d2) 1 intR z.la) :
    Calls Try.prog 53 #[.agg #[.slice a0 z.es.length c0, .slice a1 z.fl.length c1, .slice a2 z.la.length c2], .agg #[.slice b0 z.es.length d0, .slice b1 z.fl.length d1, .slice b2 z.la.length d2]] w (Yes w) := by
  have A1 := Lib.hid ha1
  have B1 := Lib.hid hb1
  have A2 := Lib.hid ha2
  have B2 := Lib.hid hb2
  clear ha1 hb1 ha2 hb2
  go_enter Try.func53, Try.ntmps53
  go_wp2_with fail
  obtain ⟨W, hW, sW, aW, bW, kW⟩ := blocks2 w (.cells #[.slice a0 z.es.length c0, .slice a1 z.fl.length c1, .slice a2 z.la.length c2] 46) (.cells #[.slice b0 z.es.length d0, .slice b1 z.fl.length d1, .slice b2 z.la.length d2] 46)
  rw [← hW]
  clear hW
  refine (eqEntS_c _ _ z.es _ (ha0.below kW) (hb0.below kW)).mono ?_
  rintro e w1 ⟨rfl, k1⟩
  have s1 := k1.size
  have K1 := below_next kW k1
  have hcA := cell_of_block (carryB k1 (by omega) aW)
  have hcB := cell_of_block (carryB k1 (by omega) bW)
  go_wp2_with fail
  refine (eqIntS_c _ _ z.fl _ (A1.out.below K1) (B1.out.below K1)).mono ?_
  rintro e w2 ⟨rfl, k2⟩
  have s2 := k2.size
  have hcA2 := cell_of_block (carryB k2 (by omega) (carryB k1 (by omega) aW))
  have hcB2 := cell_of_block (carryB k2 (by omega) (carryB k1 (by omega) bW))
  have K2 := below_next K1 k2
  go_wp2_with fail
  refine (eqIntS_c _ _ z.la _ (A2.out.below K2) (B2.out.below K2)).mono ?_
  rintro e w3 ⟨rfl, k3⟩
  have K3 := below_next K2 k3
  go_wp2_with fail
  go_ret
  exact ⟨rfl, K3⟩
end Go.Proofs.Ytofedboeggdkaaa
