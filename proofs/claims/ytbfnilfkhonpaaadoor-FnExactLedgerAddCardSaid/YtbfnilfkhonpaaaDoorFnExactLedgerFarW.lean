/- The walk of FnExactLedgerFar; condition: the package variables as listed. -/
import Derived.Test.YtbfnilfkhonpaaaDoorFarI
namespace Go.Proofs.YtbfnilfkhonpaaaDoor
open Go.RowKit Go.Joins

theorem sl_block {α : Type} {w : World} {B : Nat} {R : α → List Value} {k n : Nat} {zs : List α} {t : TypeId} (hR : ∀ z, (R z).length = k) (h : w.heap[B]? = some (.cells (flat R zs) t (0, 0))) (hz : zs.length = n) (hn : n ≤ 1048576) : IsSl w (.slice (some ⟨B, 0, none⟩) n n) k R zs := by
  subst hz
  exact ⟨some ⟨B, 0, none⟩, zs.length, rfl, Nat.le_refl _, by simp [maxLen]; omega, rows_of_block hR h⟩
/-- A copy, as a slice. -/
theorem copied_sl {zs : List En} {n : Nat} {w : World} {e : Ending} {w' : World} (h : Copied 44 En.cs zs w e w') (hz : zs.length = n) (hn : n ≤ 1048576) :
    ∃ g, e = .returned (.slice (some ⟨g, 0, none⟩) n n) ∧ IsSl w' (.slice (some ⟨g, 0, none⟩) n n) 6 En.cs zs ∧ Below w.heap.size w w' := by
  unfold Copied at h
  rw [hz] at h
  exact ⟨_, h.1, sl_block six_len h.2.1 hz hn, h.2.2⟩

set_option maxRecDepth 100000 in
set_option maxHeartbeats 2000000 in
theorem fnExactLedgerFar.walk (v0 : Value) (zs : List En) (w : World) (h0 : IsSl w v0 6 En.cs zs) (E : Env w) :
    Calls Tryd.prog 5 #[v0] w fun e w' => e = .returned (.bool true) ∧ Below w.heap.size w w' := by
  obtain ⟨a, cap, rfl, hlc, hm, hr⟩ := h0
  have H0 := Lib.hid (show IsSl w (.slice a zs.length cap) 6 En.cs zs from ⟨a, cap, rfl, hlc, hm, hr⟩)
  have EE := Lib.hid E
  clear hr E
  generalize hzn : zs.length = n at *
  have HZ := Lib.hid hzn
  clear hzn
  by_cases hs : (1048576 : Int) - n < 0
  · go_enter Tryd.func5, Tryd.ntmps5
    go_wp2_with fail
    refine (szEntryS_c a n cap 1048576 _ hlc hm (by decide) (by decide)).mono ?_
    rintro e w1 ⟨rfl, rfl⟩
    rw [show leftOf 1048576 n = -1 from by unfold leftOf; rw [if_pos hs]]
    go_wp2_with fail
    go_ret
    exact ⟨rfl, Below.refl _ _⟩
  · have hn : n ≤ 1048576 := by omega
    go_enter Tryd.func5, Tryd.ntmps5
    go_wp2_with fail
    refine (szEntryS_c a n cap 1048576 _ hlc hm (by decide) (by decide)).mono ?_
    rintro e w1 ⟨rfl, rfl⟩
    rw [show leftOf 1048576 n = 1048576 - n from by unfold leftOf; rw [if_neg (by omega)]]
    go_wp2_with fail
    refine (toEntryS_c _ zs w H0.out (by rw [HZ.out]; exact hn)).mono ?_
    intro e w2 hcp
    obtain ⟨g, rfl, i1, k2⟩ := copied_sl hcp HZ.out hn
    clear hcp
    go_wp2_with fail
    refine (sLedgerFar_c _ n n zs w2 i1 (by omega)).mono ?_
    rintro e w3 ⟨rfl, k3⟩
    have K3 := below_next k2 k3
    clear i1 k2 k3
    go_wp2_with fail
    refine (toEntryS_c _ zs w3 (H0.out.below K3) (by rw [HZ.out]; exact hn)).mono ?_
    intro e w4 hcp
    obtain ⟨g4, rfl, i4, k4⟩ := copied_sl hcp HZ.out hn
    have K4 := below_next K3 k4
    clear hcp K3 k4
    go_wp2_with fail
    refine (LedgerFar_c _ n n zs w4 (EE.out.below K4) i4 (by omega)).mono ?_
    rintro e w5 ⟨rfl, k5⟩
    have K5 := below_next K4 k5
    have i5 := i4.below k5
    clear k5 K4 i4
    go_wp2_with fail
    refine (toEntryS_c _ zs w5 (H0.out.below K5) (by rw [HZ.out]; exact hn)).mono ?_
    intro e w6 hcp
    obtain ⟨g6, rfl, i6, k6⟩ := copied_sl hcp HZ.out hn
    have K6 := below_next K5 k6
    have i7 := i5.below k6
    clear hcp k6 i5 K5
    go_wp2_with fail
    refine (eqEntryS_c _ _ zs w6 i7 i6).mono ?_
    rintro e w7 ⟨rfl, k7⟩
    go_wp2_with fail
    go_ret
    exact ⟨rfl, below_next K6 k7⟩
end Go.Proofs.YtbfnilfkhonpaaaDoor
