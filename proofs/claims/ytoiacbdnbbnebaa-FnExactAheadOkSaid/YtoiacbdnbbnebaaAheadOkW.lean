/- The walk of FnExactAheadOk; no condition. -/
import Derived.Test.YtoiacbdnbbnebaaAheadOk
namespace Go.Proofs.Ytoiacbdnbbnebaa
open Go.RowKit Go.Joins

theorem IsSl.bounds {α : Type} {w : World} {a : Option Addr} {n cap k : Nat} {R : α → List Value} {zs : List α} (h : IsSl w (.slice a n cap) k R zs) : zs.length = n ∧ n ≤ cap ∧ cap ≤ maxLen := by
  obtain ⟨_, _, e, hl, hm, _⟩ := h
  simp only [Value.slice.injEq] at e
  obtain ⟨-, rfl, rfl⟩ := e
  exact ⟨rfl, hl, hm⟩

set_option maxHeartbeats 1000000 in
theorem sAheadOk_c (z : Ah) (a0 a1 : Option Addr) (c0 c1 : Nat) (w : World) (h0 : IsSl w (.slice a0 z.dn.length c0) 5 Rq.cs z.dn) (h1 : IsSl w (.slice a1 z.wt.length c1) 5 Rq.cs z.wt) (hs : z.dn.length + z.wt.length ≤ 1048576) :
    Calls Try.prog 33 #[.agg #[.slice a0 z.dn.length c0, .slice a1 z.wt.length c1, .int .i64 z.bk]] w fun e w' => e = .returned (.bool (aheadB z)) ∧ Below w.heap.size w w' := by
  have H0 := Lib.hid h0
  have H1 := Lib.hid h1
  clear h0 h1
  go_enter Try.func33, Try.ntmps33
  go_wp2_with fail
  obtain ⟨W, hW, sW, aW, kW⟩ := blocks1 w (.cells #[.slice a0 z.dn.length c0, .slice a1 z.wt.length c1, .int .i64 z.bk] 56)
  rw [← hW]
  clear hW
  refine (l8Ok_c z a0 a1 c0 c1 _ (H0.out.below kW) (H1.out.below kW) hs).mono ?_
  rintro e w1 ⟨rfl, k1⟩
  have K1 := below_next kW k1
  go_wp2_with fail
  go_ret
  exact ⟨rfl, K1⟩

set_option maxRecDepth 100000 in
set_option maxHeartbeats 2000000 in
theorem fnExactAheadOk.walk (v0 : Value) (z : Ah) (w : World) (h0 : IsAh w v0 z) :
    Calls Try.prog 12 #[v0] w fun e w' => e = .returned (.bool true) ∧ Below w.heap.size w w' := by
  obtain ⟨va, vb, rfl, ⟨a0, c0, rfl, hl0, hm0, hr0⟩, ⟨a1, c1, rfl, hl1, hm1, hr1⟩⟩ := h0
  have H0 := Lib.hid (show IsSl w (.slice a0 z.dn.length c0) 5 Rq.cs z.dn from ⟨a0, c0, rfl, hl0, hm0, hr0⟩)
  have H1 := Lib.hid (show IsSl w (.slice a1 z.wt.length c1) 5 Rq.cs z.wt from ⟨a1, c1, rfl, hl1, hm1, hr1⟩)
  have HL := Lib.hid (And.intro hm0 hm1)
  clear hr0 hr1 hm0 hm1
  go_enter Try.func12, Try.ntmps12
  go_wp2_with fail
  obtain ⟨W, hW, sW, aW, kW⟩ := blocks1 w (.cells #[.slice a0 z.dn.length c0, .slice a1 z.wt.length c1, .int .i64 z.bk] 51)
  rw [← hW]
  clear hW
  refine (szAhead_c a0 a1 _ _ c0 c1 _ _ hl0 HL.out.1 hl1 HL.out.2).mono ?_
  rintro e w1 ⟨rfl, k1⟩
  have K1 := below_next kW k1
  have b1 := carryB k1 (by omega) aW
  have l1 := lt_of_block b1
  have hc1 := cell_of_block b1
  clear k1 aW
  by_cases hs : z.dn.length + z.wt.length ≤ 1048576
  · rw [if_pos hs]
    have hs' : ¬ (1048576 - (z.dn.length : Int) - (z.wt.length : Int)) < 0 := by omega
    go_wp2_with fail
    refine (toAhead_c z a0 a1 c0 c1 _ (H0.out.below K1) (H1.out.below K1) (by omega) (by omega)).mono ?_
    rintro e w2 ⟨g0, g1, rfl, i0, i1, k2⟩
    have K2 := below_next K1 k2
    have b2 := carryB k2 (by omega) b1
    clear k2 b1 hc1 K1
    have hc2 := cell_of_block b2
    have l2 := lt_of_block b2
    go_wp2_with fail
    refine (sAheadOk_c z _ _ _ _ _ i0 i1 hs).mono ?_
    rintro e w3 ⟨rfl, k3⟩
    have K3 := below_next K2 k3
    have b3 := carryB k3 (by omega) b2
    clear k3 b2 hc2 K2 i0 i1
    have hc3 := cell_of_block b3
    have l3 := lt_of_block b3
    go_wp2_with fail
    refine (toAhead_c z a0 a1 c0 c1 _ (H0.out.below K3) (H1.out.below K3) (by omega) (by omega)).mono ?_
    rintro e w4 ⟨g2, g3, rfl, i2, i3, k4⟩
    have I2 := Lib.hid i2
    have I3 := Lib.hid i3
    have K4 := below_next K3 k4
    have b4 := carryB k4 (by omega) b3
    clear k4 b3 hc3 K3 i2 i3
    have hc4 := cell_of_block b4
    have l4 := lt_of_block b4
    go_wp2_with fail
    obtain ⟨X, hX, sX, aX, kX⟩ := blocks1 w4 (.cells #[.slice (some ⟨g2, 0, none⟩) z.dn.length z.dn.length, .slice (some ⟨g3, 0, none⟩) z.wt.length z.wt.length, .int .i64 z.bk] 56)
    rw [← hX]
    clear hX
    have bX := carryB kX l4 b4
    have KX := below_next K4 kX
    refine (AheadOk_c z _ _ _ _ _ (I2.out.below kX) (I3.out.below kX) hs).mono ?_
    rintro e w5 ⟨rfl, k5⟩
    have K5 := below_next KX k5
    have b5 := carryB k5 (by omega) bX
    have a5 := carryB k5 (by omega) aX
    have J2 := Lib.hid (I2.out.below (kX.trans (k5.mono (by omega))))
    have J3 := Lib.hid (I3.out.below (kX.trans (k5.mono (by omega))))
    clear k5 kX bX aX hc4 I2 I3 KX K4 b4
    have hb5 := cell_of_block b5
    have ha5 := cell_of_block a5
    have lb := lt_of_block b5
    have la := lt_of_block a5
    go_wp2_with fail
    go_region_held3 (fun w' => (∀ b o, b < w5.heap.size → w'.cell? ⟨b, o, none⟩ = w5.cell? ⟨b, o, none⟩) ∧ Below w5.heap.size w5 w')
      (first | with_reducible exact Kept.start _ | with_reducible exact Kept.drew (by assumption) | with_reducible exact kS | with_reducible exact kS')
      (first
      | (go_at_call 34; refine (toAhead_c z a0 a1 c0 c1 _ (H0.out.below (below_next K5 (by assumption : _ ∧ _).2)) (H1.out.below (below_next K5 (by assumption : _ ∧ _).2)) (by omega) (by omega)).mono ?_; rintro e w6 ⟨g4, g5, rfl, i4, i5, k6⟩; have kS := Kept.next (Nat.le_refl _) (by assumption) k6)
      | (go_at_call 36; refine (eqAhead_c z _ _ _ _ _ _ _ _ _ (J2.out.below kS.2) (J3.out.below kS.2) i4 i5).mono ?_; rintro e w7 ⟨rfl, k7⟩; have kS' := Kept.next (Nat.le_refl _) kS k7))
    go_wp2_with fail
    go_ret
    exact ⟨rfl, below_next K5 kS'.2⟩
  · rw [if_neg hs]
    go_wp2_with fail
    go_ret
    exact ⟨rfl, K1⟩
end Go.Proofs.Ytoiacbdnbbnebaa
