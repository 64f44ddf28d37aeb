/- The walk of FnExactLedgerMeet; condition: the package variables as listed. -/
import Derived.Test.YtbfnilfkhonpaaaDoorMeet
import Derived.Test.YtbfnilfkhonpaaaDoorFnExactLedgerFarW
namespace Go.Proofs.YtbfnilfkhonpaaaDoor
open Go.RowKit Go.Joins

theorem leftOf_neg {l : Int} {n : Nat} (h : l - n < 0) : leftOf l n = -1 := by unfold leftOf; rw [if_pos h]
theorem leftOf_pos {l : Int} {n : Nat} (h : 0 ≤ l - n) : leftOf l n = l - n := by unfold leftOf; rw [if_neg (by omega)]

set_option maxRecDepth 100000 in
set_option maxHeartbeats 4000000 in
theorem fnExactLedgerMeet.walk (v0 : Value) (xs : List En) (v1 : Value) (ys : List En) (w : World) (h0 : IsSl w v0 6 En.cs xs) (h1 : IsSl w v1 6 En.cs ys) (E : Env w) :
    Calls Tryd.prog 6 #[v0, v1] w fun e w' => e = .returned (.bool true) ∧ Below w.heap.size w w' := by
  obtain ⟨a, ca, rfl, hla, hma, hra⟩ := h0
  obtain ⟨b, cb, rfl, hlb, hmb, hrb⟩ := h1
  have H0 := Lib.hid (show IsSl w (.slice a xs.length ca) 6 En.cs xs from ⟨a, ca, rfl, hla, hma, hra⟩)
  have H1 := Lib.hid (show IsSl w (.slice b ys.length cb) 6 En.cs ys from ⟨b, cb, rfl, hlb, hmb, hrb⟩)
  have EE := Lib.hid E
  clear hra hrb E
  generalize hxn : xs.length = n at *
  generalize hyn : ys.length = m at *
  have HX := Lib.hid hxn
  have HY := Lib.hid hyn
  clear hxn hyn
  have sz1 := szEntryS_c a n ca 1048576 w hla hma (by decide) (by decide)
  by_cases hs : (1048576 : Int) - n < 0
  · rw [leftOf_neg hs] at sz1
    go_enter Tryd.func6, Tryd.ntmps6
    go_wp2_with fail
    refine sz1.mono ?_
    rintro e w1 ⟨rfl, rfl⟩
    go_wp2_with fail
    go_ret
    exact ⟨rfl, Below.refl _ _⟩
  · have hn : n ≤ 1048576 := by omega
    rw [leftOf_pos (by omega)] at sz1
    have sz2 := szEntryS_c b m cb (1048576 - n) w hlb hmb (by omega) (by omega)
    by_cases ht : (1048576 : Int) - n - m < 0
    · rw [leftOf_neg ht] at sz2
      go_enter Tryd.func6, Tryd.ntmps6
      go_wp2_with fail
      refine sz1.mono ?_
      rintro e w1 ⟨rfl, rfl⟩
      go_wp2_with fail
      refine sz2.mono ?_
      rintro e w1 ⟨rfl, rfl⟩
      go_wp2_with fail
      go_ret
      exact ⟨rfl, Below.refl _ _⟩
    · have hm : m ≤ 1048576 := by omega
      rw [leftOf_pos (by omega)] at sz2
      go_enter Tryd.func6, Tryd.ntmps6
      go_wp2_with fail
      refine sz1.mono ?_
      rintro e w1 ⟨rfl, rfl⟩
      go_wp2_with fail
      refine sz2.mono ?_
      rintro e w1 ⟨rfl, rfl⟩
      go_wp2_with fail
      refine (toEntryS_c _ xs w H0.out (by rw [HX.out]; exact hn)).mono ?_
      intro e w2 hcp
      obtain ⟨g2, rfl, i2, k2⟩ := copied_sl hcp HX.out hn
      clear hcp
      go_wp2_with fail
      refine (toEntryS_c _ ys w2 (H1.out.below k2) (by rw [HY.out]; exact hm)).mono ?_
      intro e w3 hcp
      obtain ⟨g3, rfl, i3, k3⟩ := copied_sl hcp HY.out hm
      have j2 := i2.below k3
      have K3 := below_next k2 k3
      clear hcp i2 k2 k3
      go_wp2_with fail
      refine (sLedgerMeet_c _ _ n m n m xs ys w3 j2 i3 (by omega) (by omega)).mono ?_
      rintro e w4 ⟨rfl, k4⟩
      have K4 := below_next K3 k4
      clear j2 i3 K3 k4
      go_wp2_with fail
      refine (toEntryS_c _ xs w4 (H0.out.below K4) (by rw [HX.out]; exact hn)).mono ?_
      intro e w5 hcp
      obtain ⟨g5, rfl, i5, k5⟩ := copied_sl hcp HX.out hn
      have K5 := below_next K4 k5
      clear hcp K4 k5
      go_wp2_with fail
      refine (toEntryS_c _ ys w5 (H1.out.below K5) (by rw [HY.out]; exact hm)).mono ?_
      intro e w6 hcp
      obtain ⟨g6, rfl, i6, k6⟩ := copied_sl hcp HY.out hm
      have j5 := i5.below k6
      have K6 := below_next K5 k6
      clear hcp i5 K5 k6
      go_wp2_with fail
      refine (LedgerMeet_c _ _ n m n m xs ys w6 (EE.out.below K6) j5 i6 (by omega) (by omega)).mono ?_
      rintro e w7 ⟨rfl, k7⟩
      have K7 := below_next K6 k7
      have j7 := j5.below k7
      have i7 := i6.below k7
      clear j5 i6 K6 k7
      go_wp2_with fail
      refine (toEntryS_c _ xs w7 (H0.out.below K7) (by rw [HX.out]; exact hn)).mono ?_
      intro e w8 hcp
      obtain ⟨g8, rfl, i8, k8⟩ := copied_sl hcp HX.out hn
      have j8 := j7.below k8
      have l8 := i7.below k8
      have K8 := below_next K7 k8
      clear hcp j7 i7 K7 k8
      go_wp2_with fail
      refine (eqEntryS_c _ _ xs w8 j8 i8).mono ?_
      rintro e w9 ⟨rfl, k9⟩
      have l9 := l8.below k9
      have K9 := below_next K8 k9
      clear j8 i8 l8 K8 k9
      go_wp2_with fail
      refine (toEntryS_c _ ys w9 (H1.out.below K9) (by rw [HY.out]; exact hm)).mono ?_
      intro e w10 hcp
      obtain ⟨g10, rfl, i10, k10⟩ := copied_sl hcp HY.out hm
      have l10 := l9.below k10
      have K10 := below_next K9 k10
      clear hcp l9 K9 k10
      go_wp2_with fail
      refine (eqEntryS_c _ _ ys w10 l10 i10).mono ?_
      rintro e w11 ⟨rfl, k11⟩
      go_wp2_with fail
      go_ret
      exact ⟨rfl, below_next K10 k11⟩
end Go.Proofs.YtbfnilfkhonpaaaDoor
