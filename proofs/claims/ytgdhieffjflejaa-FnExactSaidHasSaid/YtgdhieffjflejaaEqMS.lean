/- Lists of letters compared by eqMsgS: two that say the same are found alike; no condition. -/
import Derived.Test.YtgdhieffjflejaaEqMsg
import Derived.Test.YtgdhieffjflejaaHasS
set_option linter.unusedSimpArgs false
set_option linter.unusedVariables false
namespace Go.Proofs.Ytgdhieffjflejaa
open Go.RowKit Go.Joins

set_option maxRecDepth 100000 in
set_option maxHeartbeats 2000000 in
theorem eqMsgS_c (va vb : Value) (xs ys : List Mg) (w : World) (ha : IsMs w va xs) (hb : IsMs w vb ys) (he : xs.map Mg.say = ys.map Mg.say) :
    Calls Try.prog 16 #[va, vb] w (Yes w) := by
  obtain ⟨⟨a, cap, rfl, hlc, hm, hra⟩, hca⟩ := ha
  obtain ⟨⟨b, cap', rfl, hlc', hm', hrb⟩, hcb⟩ := hb
  have HA := Lib.hid hra
  have HB := Lib.hid hrb
  have CA := Lib.hid hca
  have CB := Lib.hid hcb
  have HE := Lib.hid he
  have hne : xs.length = ys.length := by simpa using congrArg List.length he
  clear hra hrb hca hcb he
  unfold maxLen at hm hm'
  generalize hnn : xs.length = n at *
  have hnb : ys.length = n := hne.symm
  rw [hnb] at hlc' ⊢
  clear hne
  go_enter Try.func16, Try.ntmps16
  go_wp2_with fail
  go_loopw [5] (fun i wr => ∃ k : Nat, k ≤ n ∧ i = .int .i64 k ∧ Below w.heap.size w wr) (fun i _ => n - (intOf i).toNat)
  case atStart => exact ⟨0, Nat.zero_le _, rfl, Below.refl _ _⟩
  case round =>
    obtain ⟨k, hk, rfl, hbel⟩ := hrel
    by_cases hlt : k < n
    · have hka : k < xs.length := by omega
      have hkb : k < ys.length := by omega
      have hk1 : (k : Int) < (n : Int) := by omega
      have hk0 : (0 : Int) ≤ (k : Int) := by omega
      obtain ⟨b0, o0, rfl, hl0, hc0⟩ := mg_at HA.out k hka
      obtain ⟨x0, x1, x2, x3, x4, x5, x6, x7, x8, x9, x10⟩ := hc0 wr hbel
      obtain ⟨b1, o1, rfl, hl1, hc1⟩ := mg_at HB.out k hkb
      obtain ⟨y0, y1, y2, y3, y4, y5, y6, y7, y8, y9, y10⟩ := hc1 wr hbel
      have SX := (CA.out xs[k] (List.getElem_mem hka)).below hbel
      have SY := (CB.out ys[k] (List.getElem_mem hkb)).below hbel
      have HS := Lib.hid (show xs[k].say = ys[k].say by
        have h1 : (xs.map Mg.say)[k]? = (ys.map Mg.say)[k]? := by rw [HE.out]
        rw [List.getElem?_map, List.getElem?_map, List.getElem?_eq_getElem hka, List.getElem?_eq_getElem hkb] at h1
        simpa using h1)
      clear hc0 hc1
      generalize xs[k] = x at *
      generalize ys[k] = y at *
      have HX := Lib.hid (show IsMg wr (.agg x.cs.toArray) x from ⟨rfl, SX⟩)
      have HY := Lib.hid (show IsMg wr (.agg y.cs.toArray) y from ⟨rfl, SY⟩)
      obtain ⟨⟨ax, cx, ex, -⟩, ⟨bx, dx, fx, -⟩, -⟩ := SX
      obtain ⟨⟨ay, cy, ey, -⟩, ⟨by_, dy, fy, -⟩, -⟩ := SY
      rw [ex] at x9
      rw [fx] at x10
      rw [ey] at y9
      rw [fy] at y10
      simp only [Mg.cs, ex, fx] at HX
      simp only [Mg.cs, ey, fy] at HY
      clear ex fx ey fy
      have cS := quietC (w := wr) (fun V hV => eqMsg_c _ _ x y V (HX.out.below hV) (HY.out.below hV) HS.out)
      have d0 := cell_regrown x0
      have e0 := cell_regrown y0
      have d1 := cell_regrown x1
      have e1 := cell_regrown y1
      have d2 := cell_regrown x2
      have e2 := cell_regrown y2
      have d3 := cell_regrown x3
      have e3 := cell_regrown y3
      have d4 := cell_regrown x4
      have e4 := cell_regrown y4
      have d5 := cell_regrown x5
      have e5 := cell_regrown y5
      have d6 := cell_regrown x6
      have e6 := cell_regrown y6
      have d7 := cell_regrown x7
      have e7 := cell_regrown y7
      have d8 := cell_regrown x8
      have e8 := cell_regrown y8
      have d9 := cell_regrown x9
      have e9 := cell_regrown y9
      have d10 := cell_regrown x10
      have e10 := cell_regrown y10
      clear x0 x1 x2 x3 x4 x5 x6 x7 x8 x9 x10 y0 y1 y2 y3 y4 y5 y6 y7 y8 y9 y10
      go_wp2_with fail
      refine wp_region_quiet_below (by kernel_rfl) (by kernel_rfl) ?_
      repeat (go_big_quiet_step (with_reducible exact cS _ _))
      refine wpQuiet_nil ?_
      intro _ hw'
      obtain ⟨⟨dq, osq⟩, hw''⟩ := hw'
      subst hw''
      have KQ := below_next hbel (below_regrown wr dq osq)
      go_wp2_with fail
      refine ⟨⟨k + 1, by omega, by go_num, KQ⟩, ?_⟩
      simp [intOf]; omega
    · go_wp2_with fail
      go_ret
      exact ⟨rfl, hbel⟩
end Go.Proofs.Ytgdhieffjflejaa
