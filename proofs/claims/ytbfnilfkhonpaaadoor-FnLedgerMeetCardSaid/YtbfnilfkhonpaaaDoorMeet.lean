/- Contracts of LedgerMeet, the program's and the reference's; condition: the package variables as listed. -/
import Derived.Test.YtbfnilfkhonpaaaDoorFarI
namespace Go.Proofs.YtbfnilfkhonpaaaDoor
open Go.RowKit Go.Joins

def eqE (c n o x y s c' n' o' x' y' s' : Int) : Bool := eqR c n o x y c' n' o' x' y' && s == s'
theorem eqE_refl (c n o x y s : Int) : eqE c n o x y s c n o x y s = true := by simp [eqE, eqR]
theorem eqE_ne {x y : En} (h : x ≠ y) : eqE x.r.c x.r.n x.r.o x.r.x x.r.y x.s y.r.c y.r.n y.r.o y.r.x y.r.y y.s = false := by
  rw [← Bool.not_eq_true]
  unfold eqE
  rw [Bool.and_eq_true, eqR_iff, beq_iff_eq]
  rintro ⟨h1, h2⟩
  apply h
  obtain ⟨xr, xs⟩ := x
  obtain ⟨yr, ys⟩ := y
  simp only at h1 h2
  rw [h1, h2]
theorem eql_en (w : World) (c n o x y s c' n' o' x' y' s' : Int) : (binOp .eql 44 (.agg #[.int .i64 c, .int .i64 n, .int .i64 o, .int .i64 x, .int .i64 y, .int .i64 s]) (.agg #[.int .i64 c', .int .i64 n', .int .i64 o', .int .i64 x', .int .i64 y', .int .i64 s'])).run Tryd.prog w = .ok (.bool (eqE c n o x y s c' n' o' x' y' s')) w := by
  go_simp
  by_cases h1 : c = c' <;> by_cases h2 : n = n' <;> by_cases h3 : o = o' <;> by_cases h4 : x = x' <;> by_cases h5 : y = y' <;> by_cases h6 : s = s' <;> simp [eqE, eqR, h1, h2, h3, h4, h5, h6]
theorem neq_en (w : World) (c n o x y s c' n' o' x' y' s' : Int) : (binOp .neq 44 (.agg #[.int .i64 c, .int .i64 n, .int .i64 o, .int .i64 x, .int .i64 y, .int .i64 s]) (.agg #[.int .i64 c', .int .i64 n', .int .i64 o', .int .i64 x', .int .i64 y', .int .i64 s'])).run Tryd.prog w = .ok (.bool (!eqE c n o x y s c' n' o' x' y' s')) w := by
  go_simp
  by_cases h1 : c = c' <;> by_cases h2 : n = n' <;> by_cases h3 : o = o' <;> by_cases h4 : x = x' <;> by_cases h5 : y = y' <;> by_cases h6 : s = s' <;> simp [eqE, eqR, h1, h2, h3, h4, h5, h6]
attribute [local go_sem ↓] eql_en neq_en

set_option maxRecDepth 100000 in
set_option maxHeartbeats 4000000 in
theorem LedgerMeet_c (a b : Option Addr) (n m ca cb : Nat) (xs ys : List En) (w : World) (E : Env w) (ha : IsSl w (.slice a n ca) 6 En.cs xs) (hb : IsSl w (.slice b m cb) 6 En.cs ys) (hn : n ≤ 16777216) (hm : m ≤ 16777216) :
    Calls Tryd.prog 28 #[.slice a n ca, .slice b m cb] w fun e w' => e = .returned (.int .i64 (meet xs ys)) ∧ Below w.heap.size w w' := by
  obtain ⟨hxl, hlca, hma, hra⟩ := ha.bounds
  obtain ⟨hyl, hlcb, hmb, hrb⟩ := hb.bounds
  have HSA := Lib.hid ha
  have HSB := Lib.hid hb
  have HRA := Lib.hid hra
  have HRB := Lib.hid hrb
  clear hra hrb ha hb
  unfold maxLen at hma hmb
  have hfa1 := far_le xs
  have hfb1 := far_le ys
  have HM := Lib.hid (fun k h1 h2 h3 h4 => meet_eq (xs := xs) (ys := ys) (n := k) ⟨h1, h2, h3, h4⟩)
  have EE := Lib.hid E
  have HFA := Lib.hid (fun V E h => LedgerFar_c a n ca xs V E h hn)
  have HFB := Lib.hid (fun V E h => LedgerFar_c b m cb ys V E h hm)
  clear E
  generalize far xs = fa at *
  generalize far ys = fb at *
  go_enter Tryd.func28, Tryd.ntmps28
  go_wp2_with fail
  refine (HFA.out w EE.out HSA.out).mono ?_
  rintro e w1 ⟨rfl, k1⟩
  go_wp2_with fail
  refine (HFB.out w1 (EE.out.below k1) (HSB.out.below k1)).mono ?_
  rintro e w2 ⟨rfl, k2⟩
  have K2 := below_next k1 k2
  obtain ⟨ff, hff1, hff2, hff3⟩ : ∃ ff : Nat, ff ≤ fa ∧ ff ≤ fb ∧ (ff = fa ∨ ff = fb) := by
    by_cases h : fa ≤ fb
    · exact ⟨fa, Nat.le_refl _, h, .inl rfl⟩
    · exact ⟨fb, by omega, Nat.le_refl _, .inr rfl⟩
  have hmin : min (fa : Int) (fb : Int) = (ff : Int) := by omega
  clear k1 k2
  go_wp2_with fail
  go_loopw [5] (fun i wr => ∃ k : Nat, k ≤ fa ∧ k ≤ fb ∧ i = .int .i64 k ∧ (∀ j, j < k → enAt xs j = enAt ys j) ∧ Below w.heap.size w wr) (fun i _ => fa - (intOf i).toNat)
  case atStart => exact ⟨0, Nat.zero_le _, Nat.zero_le _, rfl, fun j hj => absurd hj (Nat.not_lt_zero j), K2⟩
  case round =>
    obtain ⟨k, hka, hkb, rfl, hall, hbel⟩ := hrel
    have HA := Lib.hid hall
    have HB := Lib.hid hbel
    clear hall
    by_cases hlt : k < fa ∧ k < fb
    · obtain ⟨hla, hlb⟩ := hlt
      have hk0 : (0 : Int) ≤ (k : Int) := by omega
      have hkx : k < xs.length := by omega
      have hky : k < ys.length := by omega
      have hkn : k < n := by omega
      have hkm : k < m := by omega
      have hkf : k < ff := by omega
      obtain ⟨b0, o0, rfl, hl0, hc0⟩ := six_at HRA.out k hkx
      obtain ⟨b1, o1, rfl, hl1, hc1⟩ := six_at HRB.out k hky
      obtain ⟨c0, c1, c2, c3, c4, c5⟩ := hc0 wr hbel
      obtain ⟨d0, d1, d2, d3, d4, d5⟩ := hc1 wr hbel
      have HEX := Lib.hid (enAt_eq hkx)
      have HEY := Lib.hid (enAt_eq hky)
      clear hc0 hc1
      generalize xs[k] = x at *
      generalize ys[k] = y at *
      have e0 := cell_regrown c0
      have e1 := cell_regrown c1
      have e2 := cell_regrown c2
      have e3 := cell_regrown c3
      have e4 := cell_regrown c4
      have e5 := cell_regrown c5
      have f0 := cell_regrown d0
      have f1 := cell_regrown d1
      have f2 := cell_regrown d2
      have f3 := cell_regrown d3
      have f4 := cell_regrown d4
      have f5 := cell_regrown d5
      clear c0 c1 c2 c3 c4 c5 d0 d1 d2 d3 d4 d5
      by_cases hxy : x = y
      · have hall2 : ∀ j, j < k + 1 → enAt xs j = enAt ys j := fun j hj => by
          by_cases e : j = k
          · rw [e, HEX.out, HEY.out, hxy]
          · exact HA.out j (by omega)
        have H2 := Lib.hid hall2
        clear hall2
        subst hxy
        have hE := eqE_refl x.r.c x.r.n x.r.o x.r.x x.r.y x.s
        go_wp2_with fail
        refine wp_region_quiet_below (by kernel_rfl) (by kernel_rfl) ?_
        repeat (go_big_quiet_step (fail))
        refine wpQuiet_nil ?_
        intro _ hw'
        obtain ⟨⟨dq, osq⟩, hw''⟩ := hw'
        subst hw''
        have KQ := below_next HB.out (below_regrown wr dq osq)
        go_wp2_with fail
        go_roundw
        case rel => exact ⟨k + 1, by omega, by omega, by go_num, H2.out, KQ⟩
        case measure => simp [intOf]; omega
      · have hE := eqE_ne hxy
        have HNE := Lib.hid (show enAt xs k ≠ enAt ys k by rw [HEX.out, HEY.out]; exact hxy)
        clear hxy
        have HF := Lib.hid (HM.out k hka hkb HA.out (fun _ _ => HNE.out))
        go_wp2_with fail
        refine wp_region_quiet_below (by kernel_rfl) (by kernel_rfl) ?_
        repeat (go_big_quiet_step (fail))
        refine wpQuiet_nil ?_
        intro _ hw'
        obtain ⟨⟨dq, osq⟩, hw''⟩ := hw'
        subst hw''
        have KQ := below_next HB.out (below_regrown wr dq osq)
        go_wp2_with fail
        go_ret
        exact ⟨ret_int (by rw [HF.out]), KQ⟩
    · have hd : decide (k < ff) = false := by simp; omega
      have hlb : ¬ (k < fa ∧ k < fb) := hlt
      have HL := Lib.hid hlb
      clear hlt hlb
      have HF := Lib.hid (HM.out k hka hkb HA.out (fun q1 q2 => absurd ⟨q1, q2⟩ HL.out))
      go_wp2_with fail
      refine wp_region_quiet_below (by kernel_rfl) (by kernel_rfl) ?_
      repeat (go_big_quiet_step (fail))
      refine wpQuiet_nil ?_
      intro _ hw'
      obtain ⟨⟨dq, osq⟩, hw''⟩ := hw'
      subst hw''
      have KQ := below_next HB.out (below_regrown wr dq osq)
      go_wp2_with fail
      go_ret
      exact ⟨ret_int (by rw [HF.out]), KQ⟩

set_option maxRecDepth 100000 in
set_option maxHeartbeats 4000000 in
theorem sLedgerMeet_c (a b : Option Addr) (n m ca cb : Nat) (xs ys : List En) (w : World) (ha : IsSl w (.slice a n ca) 6 En.cs xs) (hb : IsSl w (.slice b m cb) 6 En.cs ys) (hn : n ≤ 16777216) (hm : m ≤ 16777216) :
    Calls Tryd.prog 27 #[.slice a n ca, .slice b m cb] w fun e w' => e = .returned (.int .i64 (meet xs ys)) ∧ Below w.heap.size w w' := by
  obtain ⟨hxl, hlca, hma, hra⟩ := ha.bounds
  obtain ⟨hyl, hlcb, hmb, hrb⟩ := hb.bounds
  have HSA := Lib.hid ha
  have HSB := Lib.hid hb
  have HRA := Lib.hid hra
  have HRB := Lib.hid hrb
  clear hra hrb ha hb
  unfold maxLen at hma hmb
  have hfa1 := far_le xs
  have hfb1 := far_le ys
  have HM := Lib.hid (fun k h1 h2 h3 h4 => meet_eq (xs := xs) (ys := ys) (n := k) ⟨h1, h2, h3, h4⟩)
  have HFA := Lib.hid (fun V h => l7Far_c a n ca xs V h hn)
  have HFB := Lib.hid (fun V h => l7Far_c b m cb ys V h hm)
  generalize far xs = fa at *
  generalize far ys = fb at *
  have cA := quiet_c (w := w) (fun V hV => HFA.out V (HSA.out.below hV))
  have cB := quiet_c (w := w) (fun V hV => HFB.out V (HSB.out.below hV))
  have CW := Lib.hid (And.intro HFA.out HFB.out)
  clear cA cB
  go_enter Tryd.func27, Tryd.ntmps27
  go_wp2_with fail
  go_loopw [5] (fun i wr => ∃ k : Nat, k ≤ fa ∧ k ≤ fb ∧ i = .int .i64 k ∧ (∀ j, j < k → enAt xs j = enAt ys j) ∧ Below w.heap.size w wr) (fun i _ => fa - (intOf i).toNat)
  case atStart => exact ⟨0, Nat.zero_le _, Nat.zero_le _, rfl, fun j hj => absurd hj (Nat.not_lt_zero j), Below.refl _ _⟩
  case round =>
    obtain ⟨k, hka, hkb, rfl, hall, hbel⟩ := hrel
    have HA := Lib.hid hall
    have HB := Lib.hid hbel
    clear hall
    have cA := quiet_c (w := wr) (fun V hV => CW.out.1 V (HSA.out.below (below_next HB.out hV)))
    have cB := quiet_c (w := wr) (fun V hV => CW.out.2 V (HSB.out.below (below_next HB.out hV)))
    by_cases hlt : k < fa ∧ k < fb
    · obtain ⟨hla, hlb⟩ := hlt
      have hk0 : (0 : Int) ≤ (k : Int) := by omega
      have hkx : k < xs.length := by omega
      have hky : k < ys.length := by omega
      have hkn : k < n := by omega
      have hkm : k < m := by omega
      obtain ⟨b0, o0, rfl, hl0, hc0⟩ := six_at HRA.out k hkx
      obtain ⟨b1, o1, rfl, hl1, hc1⟩ := six_at HRB.out k hky
      obtain ⟨c0, c1, c2, c3, c4, c5⟩ := hc0 wr hbel
      obtain ⟨d0, d1, d2, d3, d4, d5⟩ := hc1 wr hbel
      have HEX := Lib.hid (enAt_eq hkx)
      have HEY := Lib.hid (enAt_eq hky)
      clear hc0 hc1
      generalize xs[k] = x at *
      generalize ys[k] = y at *
      have e0 := cell_regrown c0
      have e1 := cell_regrown c1
      have e2 := cell_regrown c2
      have e3 := cell_regrown c3
      have e4 := cell_regrown c4
      have e5 := cell_regrown c5
      have f0 := cell_regrown d0
      have f1 := cell_regrown d1
      have f2 := cell_regrown d2
      have f3 := cell_regrown d3
      have f4 := cell_regrown d4
      have f5 := cell_regrown d5
      clear c0 c1 c2 c3 c4 c5 d0 d1 d2 d3 d4 d5
      by_cases hxy : x = y
      · have hall2 : ∀ j, j < k + 1 → enAt xs j = enAt ys j := fun j hj => by
          by_cases e : j = k
          · rw [e, HEX.out, HEY.out, hxy]
          · exact HA.out j (by omega)
        have H2 := Lib.hid hall2
        clear hall2
        subst hxy
        have hE := eqE_refl x.r.c x.r.n x.r.o x.r.x x.r.y x.s
        go_wp2_with fail
        refine wp_region_quiet_below (by kernel_rfl) (by kernel_rfl) ?_
        repeat (go_big_quiet_step (first | with_reducible exact cA _ _ | with_reducible exact cB _ _))
        refine wpQuiet_nil ?_
        intro _ hw'
        obtain ⟨⟨dq, osq⟩, hw''⟩ := hw'
        subst hw''
        have KQ := below_next HB.out (below_regrown wr dq osq)
        go_wp2_with fail
        go_roundw
        case rel => exact ⟨k + 1, by omega, by omega, by go_num, H2.out, KQ⟩
        case measure => simp [intOf]; omega
      · have hE := eqE_ne hxy
        have HNE := Lib.hid (show enAt xs k ≠ enAt ys k by rw [HEX.out, HEY.out]; exact hxy)
        clear hxy
        have HF := Lib.hid (HM.out k hka hkb HA.out (fun _ _ => HNE.out))
        go_wp2_with fail
        refine wp_region_quiet_below (by kernel_rfl) (by kernel_rfl) ?_
        repeat (go_big_quiet_step (first | with_reducible exact cA _ _ | with_reducible exact cB _ _))
        refine wpQuiet_nil ?_
        intro _ hw'
        obtain ⟨⟨dq, osq⟩, hw''⟩ := hw'
        subst hw''
        have KQ := below_next HB.out (below_regrown wr dq osq)
        go_wp2_with fail
        go_ret
        exact ⟨ret_int (by rw [HF.out]), KQ⟩
    · by_cases hla : k < fa
      · have hlb : fb ≤ k := by omega
        have hd : decide (k < fb) = false := by simp; omega
        clear hlt
        have HF := Lib.hid (HM.out k hka hkb HA.out (fun _ q => by omega))
        go_wp2_with fail
        refine wp_region_quiet_below (by kernel_rfl) (by kernel_rfl) ?_
        repeat (go_big_quiet_step (first | with_reducible exact cA _ _ | with_reducible exact cB _ _))
        refine wpQuiet_nil ?_
        intro _ hw'
        obtain ⟨⟨dq, osq⟩, hw''⟩ := hw'
        subst hw''
        have KQ := below_next HB.out (below_regrown wr dq osq)
        go_wp2_with fail
        go_ret
        exact ⟨ret_int (by rw [HF.out]), KQ⟩
      · have hd : decide (k < fa) = false := by simp; omega
        have hlb : fa ≤ k := by omega
        clear hlt hla
        have HF := Lib.hid (HM.out k hka hkb HA.out (fun q _ => by omega))
        go_wp2_with fail
        refine wp_region_quiet_below (by kernel_rfl) (by kernel_rfl) ?_
        repeat (go_big_quiet_step (first | with_reducible exact cA _ _ | with_reducible exact cB _ _))
        refine wpQuiet_nil ?_
        intro _ hw'
        obtain ⟨⟨dq, osq⟩, hw''⟩ := hw'
        subst hw''
        have KQ := below_next HB.out (below_regrown wr dq osq)
        go_wp2_with fail
        go_ret
        exact ⟨ret_int (by rw [HF.out]), KQ⟩

end Go.Proofs.YtbfnilfkhonpaaaDoor
