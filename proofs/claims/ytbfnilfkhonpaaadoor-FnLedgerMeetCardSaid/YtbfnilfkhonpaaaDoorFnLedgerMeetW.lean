/- The walk of FnLedgerMeet: it returns true for every code; condition: the package variables as listed. -/
import Derived.Test.YtbfnilfkhonpaaaDoorDrawMeet
import Derived.Test.YtbfnilfkhonpaaaDoorMeet
import Derived.Test.YtbfnilfkhonpaaaDoorWpRows
import Derived.Test.YtbfnilfkhonpaaaDoorSlCut
namespace Go.Proofs.YtbfnilfkhonpaaaDoor.fnLedgerMeet
open Go.RowKit Go.Joins
attribute [local go_sem ↓] eql_en neq_en

theorem take_meet {xs ys : List En} {m : Nat} (h1 : m ≤ xs.length) (h2 : m ≤ ys.length) (h : ∀ j, j < m → enAt xs j = enAt ys j) : xs.take m = ys.take m := by
  apply List.ext_getElem
  · simp; omega
  · intro i hi hj
    rw [List.length_take] at hi hj
    have := h i (by omega)
    rw [enAt_eq (by omega), enAt_eq (by omega)] at this
    simpa using this

set_option maxRecDepth 100000 in
set_option maxHeartbeats 16000000 in
theorem walk (v0 : Value) (z0 : Bts) (w : World) (h0 : IsBytes w v0 z0) (E : Env w) :
    Calls Tryd.prog 8 #[v0] w fun e w' => e = .returned (.bool true) ∧ Below w.heap.size w w' := by
  obtain ⟨a, n, cap⟩ := z0
  have HZ := Lib.hid h0
  obtain ⟨hv, hlc, hm, -⟩ := h0
  simp only at hv hlc hm
  subst hv
  have EE := Lib.hid E
  clear E
  by_cases hbig : (1048576 : Int) < n
  · go_enter Tryd.func8, Tryd.ntmps8
    go_wp2_with fail
    go_ret
    exact ⟨rfl, Below.refl _ _⟩
  · go_enter Tryd.func8, Tryd.ntmps8
    go_wp2_with fail
    refine (DrawLedgerMeet_c _ _ w HZ.out).mono ?_
    rintro e w1 ⟨xs, ys, p, cp, q, cq, rfl, hx14, hy14, hsx, hsy, k1⟩
    have SX := Lib.hid hsx
    have SY := Lib.hid hsy
    obtain ⟨-, hcp, hcp2, hrx⟩ := hsx.bounds
    obtain ⟨-, hcq, hcq2, hry⟩ := hsy.bounds
    unfold maxLen at hcp2 hcq2
    have HRX := Lib.hid hrx
    have HRY := Lib.hid hry
    have HM := Lib.hid (meet_is xs ys)
    have HFX := Lib.hid (far_le xs)
    have HFY := Lib.hid (far_le ys)
    have CM := Lib.hid (fun V (k : Below w1.heap.size w1 V) => LedgerMeet_c p q xs.length ys.length cp cq xs ys V (EE.out.below (below_next k1 k)) (SX.out.below k) (SY.out.below k) (by omega) (by omega))
    have CN := Lib.hid (fun V (k : Below w1.heap.size w1 V) => LedgerMeet_c q p ys.length xs.length cq cp ys xs V (EE.out.below (below_next k1 k)) (SY.out.below k) (SX.out.below k) (by omega) (by omega))
    have CS := Lib.hid (fun V (k : Below w1.heap.size w1 V) => sLedgerMeet_c p q xs.length ys.length cp cq xs ys V (SX.out.below k) (SY.out.below k) (by omega) (by omega))
    have CX := Lib.hid (fun V (k : Below w1.heap.size w1 V) => LedgerFar_c p xs.length cp xs V (EE.out.below (below_next k1 k)) (SX.out.below k) (by omega))
    have CY := Lib.hid (fun V (k : Below w1.heap.size w1 V) => LedgerFar_c q ys.length cq ys V (EE.out.below (below_next k1 k)) (SY.out.below k) (by omega))
    have CA := Lib.hid (fun V (k : Below w1.heap.size w1 V) => LedgerMeet_c p p xs.length xs.length cp cp xs xs V (EE.out.below (below_next k1 k)) (SX.out.below k) (SX.out.below k) (by omega) (by omega))
    rw [meet_comm xs ys] at CN
    rw [meet_self xs] at CA
    obtain ⟨M, hM⟩ : ∃ M, M = meet xs ys := ⟨_, rfl⟩
    rw [← hM] at HM CM CN CS
    obtain ⟨fx, hfx⟩ : ∃ f, f = far xs := ⟨_, rfl⟩
    obtain ⟨fy, hfy⟩ : ∃ f, f = far ys := ⟨_, rfl⟩
    rw [← hfx] at HFX CX CA
    rw [← hfy] at HFY CY
    have HM1 := Lib.hid (show M ≤ fx by rw [hfx]; exact HM.out.1)
    have HM2 := Lib.hid (show M ≤ fy by rw [hfy]; exact HM.out.2.1)
    have HTK := Lib.hid (take_meet (by have := HM1.out; have := HFX.out; omega) (by have := HM2.out; have := HFY.out; omega) HM.out.2.2.1)
    have HNE := Lib.hid (show M < fx → M < fy → enAt xs M ≠ enAt ys M by rw [hfx, hfy]; exact HM.out.2.2.2)
    have SC := Lib.hid (fun V (k : Below w1.heap.size w1 V) => ((SX.out.below k).cutTo (m := M) (by have := HM1.out; have := HFX.out; omega)))
    have SD := Lib.hid (fun V (k : Below w1.heap.size w1 V) => ((SY.out.below k).cutTo (m := M) (by have := HM2.out; have := HFY.out; omega)))
    clear hM hfx hfy hsx hsy hrx hry HM
    obtain ⟨n1, hn1⟩ : ∃ n, n = xs.length := ⟨_, rfl⟩
    obtain ⟨n2, hn2⟩ : ∃ n, n = ys.length := ⟨_, rfl⟩
    have HN1 := Lib.hid hn1
    have HN2 := Lib.hid hn2
    rw [← hn1] at hx14 hcp CM CN CS CX CA HFX ⊢
    rw [← hn2] at hy14 hcq CM CN CS CY HFY ⊢
    clear hn1 hn2
    have hq1 := HM1.out
    have hq2 := HM2.out
    have hq3 := HFX.out
    have hq4 := HFY.out
    have hM0 : (0 : Int) ≤ (M : Int) := by omega
    have hMp : (M : Int) ≤ (cp : Int) := by omega
    have hMq : (M : Int) ≤ (cq : Int) := by omega
    have hM1 : ¬ (n1 : Int) < (M : Int) := by omega
    have hM2 : ¬ (n2 : Int) < (M : Int) := by omega
    go_wp2_with fail
    refine (CM.out w1 (Below.refl _ _)).mono ?_
    rintro e w2 ⟨rfl, K2⟩
    have KK2 := Lib.hid K2
    clear K2
    go_wp2_with fail
    refine (CS.out w2 KK2.out).mono ?_
    rintro e w3 ⟨rfl, k3⟩
    have KK3 := Lib.hid (below_next KK2.out k3)
    clear k3 KK2
    go_wp2_with fail
    refine (CN.out w3 KK3.out).mono ?_
    rintro e w4 ⟨rfl, k4⟩
    have KK4 := Lib.hid (below_next KK3.out k4)
    clear k4 KK3
    go_wp2_with fail
    refine (CX.out w4 KK4.out).mono ?_
    rintro e w5 ⟨rfl, k5⟩
    have KK5 := Lib.hid (below_next KK4.out k5)
    clear k5 KK4
    by_cases hmx : M < fx
    · have hmxi : (M : Int) < (fx : Int) := by omega
      have hmxd : decide (M < fx) = true := by simp; omega
      by_cases hmy : M < fy
      · have hmyi : (M : Int) < (fy : Int) := by omega
        have hmyd : decide (M < fy) = true := by simp; omega
        go_wp2_with fail
        refine (CY.out w5 KK5.out).mono ?_
        rintro e w6 ⟨rfl, k6⟩
        have KK6 := Lib.hid (below_next KK5.out k6)
        clear k6 KK5
        have cX := quiet_c (w := w6) (fun V hV => CX.out V (below_next KK6.out hV))
        have cA := quiet_c (w := w6) (fun V hV => CA.out V (below_next KK6.out hV))
        have hsd := SD.out
        rw [← HTK.out] at hsd
        have SD' := Lib.hid hsd
        clear hsd
        have cW := quiet_c (w := w6) (fun V hV => wpRows_c _ _ (xs.take M) V (SC.out V (below_next KK6.out hV)) (SD'.out V (below_next KK6.out hV)))
        have hMx : M < xs.length := by rw [← HN1.out]; omega
        have hMy : M < ys.length := by rw [← HN2.out]; omega
        obtain ⟨b0, o0, rfl, hl0, hc0⟩ := six_at HRX.out M hMx
        obtain ⟨b1, o1, rfl, hl1, hc1⟩ := six_at HRY.out M hMy
        obtain ⟨c0, c1, c2, c3, c4, c5⟩ := hc0 w6 KK6.out
        obtain ⟨d0, d1, d2, d3, d4, d5⟩ := hc1 w6 KK6.out
        have hne := HNE.out hmx hmy
        rw [enAt_eq hMx, enAt_eq hMy] at hne
        clear hc0 hc1
        generalize xs[M] = x at *
        generalize ys[M] = y at *
        have e0 := cell_regrown c0
        have e1 := cell_regrown c1
        have e2 := cell_regrown c2
        have e3 := cell_regrown c3
        have e4 := cell_regrown c4
        have e5 := cell_regrown c5
        have f0 := cell_regrown d0
        have f1 := cell_regrown d1
        have f2 := cell_regrown d2
        have f3 := cell_regrown d3
        have f4 := cell_regrown d4
        have f5 := cell_regrown d5
        clear c0 c1 c2 c3 c4 c5 d0 d1 d2 d3 d4 d5
        have hE := eqE_ne hne
        clear hne
        have hMn1 : (M : Int) < (n1 : Int) := by omega
        have hMn2 : (M : Int) < (n2 : Int) := by omega
        go_wp2_with fail
        refine wp_region_quiet_below (by kernel_rfl) (by kernel_rfl) ?_
        repeat (go_big_quiet_step (first | with_reducible exact cW _ _ | with_reducible exact cA _ _ | with_reducible exact cX _ _))
        refine wpQuiet_nil ?_
        intro _ hw'
        obtain ⟨⟨dq, osq⟩, hw''⟩ := hw'
        subst hw''
        have KQ := below_next k1 (below_next KK6.out (below_regrown w6 dq osq))
        go_wp2_with fail
        go_ret
        exact ⟨rfl, KQ⟩
      · have hmyi : ¬ (M : Int) < (fy : Int) := by omega
        have hmyd : decide (M < fy) = false := by simp; omega
        go_wp2_with fail
        refine (CY.out w5 KK5.out).mono ?_
        rintro e w6 ⟨rfl, k6⟩
        have KK6 := Lib.hid (below_next KK5.out k6)
        clear k6 KK5
        have cX := quiet_c (w := w6) (fun V hV => CX.out V (below_next KK6.out hV))
        have cA := quiet_c (w := w6) (fun V hV => CA.out V (below_next KK6.out hV))
        have hsd := SD.out
        rw [← HTK.out] at hsd
        have SD' := Lib.hid hsd
        clear hsd
        have cW := quiet_c (w := w6) (fun V hV => wpRows_c _ _ (xs.take M) V (SC.out V (below_next KK6.out hV)) (SD'.out V (below_next KK6.out hV)))
        go_wp2_with fail
        refine wp_region_quiet_below (by kernel_rfl) (by kernel_rfl) ?_
        repeat (go_big_quiet_step (first | with_reducible exact cW _ _ | with_reducible exact cA _ _ | with_reducible exact cX _ _))
        refine wpQuiet_nil ?_
        intro _ hw'
        obtain ⟨⟨dq, osq⟩, hw''⟩ := hw'
        subst hw''
        have KQ := below_next k1 (below_next KK6.out (below_regrown w6 dq osq))
        go_wp2_with fail
        go_ret
        exact ⟨rfl, KQ⟩
    · have hmxi : ¬ (M : Int) < (fx : Int) := by omega
      have hmxd : decide (M < fx) = false := by simp; omega
      have cX := quiet_c (w := w5) (fun V hV => CX.out V (below_next KK5.out hV))
      have cA := quiet_c (w := w5) (fun V hV => CA.out V (below_next KK5.out hV))
      have hsd := SD.out
      rw [← HTK.out] at hsd
      have SD' := Lib.hid hsd
      clear hsd
      have cW := quiet_c (w := w5) (fun V hV => wpRows_c _ _ (xs.take M) V (SC.out V (below_next KK5.out hV)) (SD'.out V (below_next KK5.out hV)))
      go_wp2_with fail
      refine wp_region_quiet_below (by kernel_rfl) (by kernel_rfl) ?_
      repeat (go_big_quiet_step (first | with_reducible exact cW _ _ | with_reducible exact cA _ _ | with_reducible exact cX _ _))
      refine wpQuiet_nil ?_
      intro _ hw'
      obtain ⟨⟨dq, osq⟩, hw''⟩ := hw'
      subst hw''
      have KQ := below_next k1 (below_next KK5.out (below_regrown w5 dq osq))
      go_wp2_with fail
      go_ret
      exact ⟨rfl, KQ⟩
end Go.Proofs.YtbfnilfkhonpaaaDoor.fnLedgerMeet
