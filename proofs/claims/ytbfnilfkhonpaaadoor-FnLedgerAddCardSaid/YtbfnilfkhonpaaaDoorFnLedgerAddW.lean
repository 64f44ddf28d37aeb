/- The walk of FnLedgerAdd: it returns true for every code; condition: the package variables as listed. -/
import Derived.Test.YtbfnilfkhonpaaaDoorWpRows
import Derived.Test.YtbfnilfkhonpaaaDoorDrawAdd
import Derived.Test.YtbfnilfkhonpaaaDoorAdd
import Derived.Test.YtbfnilfkhonpaaaDoorAddS
namespace Go.Proofs.YtbfnilfkhonpaaaDoor.fnLedgerAdd
open Go.RowKit Go.Joins

theorem addL_either (xs : List En) (r : Rq) : addL xs r = (xs, false) ∨ (far xs = xs.length ∧ xs.length < 60 ∧ good r = true ∧ addL xs r = (xs ++ [⟨r, sumL (lastSum xs) ((xs.length : Int) + 1) r⟩], true)) := by
  unfold addL
  split
  · rename_i h; exact .inr ⟨h.1, h.2.1, h.2.2, rfl⟩
  · exact .inl rfl

set_option maxRecDepth 100000 in
set_option maxHeartbeats 8000000 in
theorem walk (v : Value) (z : Bts) (w : World) (hz : IsBytes w v z) (E : Env w) :
    Calls Tryd.prog 12 #[v] w fun e w' => e = .returned (.bool true) ∧ Below w.heap.size w w' := by
  obtain ⟨a, n, cap⟩ := z
  have HZ := Lib.hid hz
  obtain ⟨hv, hlc, hm, -⟩ := hz
  simp only at hv hlc hm
  subst hv
  have EE := Lib.hid E
  clear E
  by_cases hbig : (1048576 : Int) < n
  · go_enter Tryd.func12, Tryd.ntmps12
    go_wp2_with fail
    go_ret
    exact ⟨rfl, Below.refl _ _⟩
  · go_enter Tryd.func12, Tryd.ntmps12
    go_wp2_with fail
    refine (DrawLedgerAdd_c _ _ w HZ.out).mono ?_
    rintro e w1 ⟨xs, b, cb, r, rfl, h12, hrow, k1⟩
    have CI := Lib.hid (fun V E h => LedgerAdd_c b xs.length cb xs r V E h (by omega))
    have CS := Lib.hid (fun V h => sLedgerAdd_c b xs.length cb xs r V h (by omega))
    have HEI := Lib.hid (addL_either xs r)
    have HROW := Lib.hid hrow
    obtain ⟨N, hN⟩ : ∃ N, N = xs.length := ⟨_, rfl⟩
    have HN := Lib.hid hN
    rw [← hN] at h12 CI CS ⊢
    obtain ⟨c, n, o, x, y⟩ := r
    clear hN hrow
    go_wp2_with fail
    obtain ⟨W, hW, sW, aW, kW⟩ := blocks1 w1 (.cells #[.int .i64 c, .int .i64 n, .int .i64 o, .int .i64 x, .int .i64 y] 42)
    rw [← hW]
    clear hW
    have KW := below_next k1 kW
    have SW := Lib.hid ((HROW.out.slE six_len HN.out.symm).below kW)
    have hcW := cell_of_block aW
    have HLW := Lib.hid (show W.heap.size = w1.heap.size + 1 from sW)
    have AW := Lib.hid aW
    rcases HEI.out with h1 | ⟨hf, h60, hg, h1⟩
    · rw [h1] at CI CS
      clear HEI h1
      refine (CI.out W (EE.out.below KW) SW.out).mono ?_
      rintro e w2 ⟨ax, rfl, rx, k2⟩
      dsimp only at rx ⊢
      rw [← HN.out] at rx ⊢
      have RX := Lib.hid rx
      have S2 := Lib.hid (SW.out.below k2)
      have K2 := below_next KW k2
      have A2 := Lib.hid (carryB k2 (by have := HLW.out; omega) AW.out)
      have hc2 := cell_of_block A2.out
      clear rx k2 KW kW SW aW hcW sW AW
      go_wp2_with fail
      refine (CS.out w2 S2.out).mono ?_
      rintro e w3 ⟨ay, cy, rfl, ry, k3⟩
      dsimp only at ry ⊢
      rw [← HN.out]
      have SY := Lib.hid (ry.slE six_len HN.out.symm)
      have RX3 := Lib.hid (RX.out.below k3)
      have S3 := Lib.hid (S2.out.below k3)
      have K3 := below_next K2 k3
      clear ry k3 K2 RX S2 hc2
      go_wp2_with fail
      refine (wpRows_c _ _ xs w3 (RX3.out.slE six_len HN.out.symm) SY.out).mono ?_
      rintro e w4 ⟨rfl, k4⟩
      have K4 := below_next K3 k4
      have RX4 := Lib.hid (RX3.out.below k4)
      have SY4 := Lib.hid (SY.out.below k4)
      have S4 := Lib.hid (S3.out.below k4)
      clear k4 K3 RX3 SY S3
      go_wp2_with fail
      refine (wpRows_c _ _ xs w4 (RX4.out.slE six_len HN.out.symm) SY4.out).mono ?_
      rintro e w5 ⟨rfl, k5⟩
      have K5 := below_next K4 k5
      have RX5 := Lib.hid (RX4.out.below k5)
      have S5 := Lib.hid (S4.out.below k5)
      clear k5 K4 RX4 SY4 S4
      go_wp2_with fail
      refine (wpRows_c _ _ xs w5 (RX5.out.slE six_len HN.out.symm) S5.out).mono ?_
      rintro e w6 ⟨rfl, k6⟩
      have K6 := below_next K5 k6
      clear k6 K5
      go_wp2_with fail
      go_ret
      exact ⟨rfl, K6⟩
    · rw [h1] at CI CS
      obtain ⟨zs, hzs⟩ : ∃ zs, zs = xs ++ [⟨⟨c, n, o, x, y⟩, sumL (lastSum xs) ((xs.length : Int) + 1) ⟨c, n, o, x, y⟩⟩] := ⟨_, rfl⟩
      have HFZ := Lib.hid (show far zs = N + 1 by rw [hzs, far_snoc hf h60 hg, HN.out])
      have HZL := Lib.hid (show zs.length = N + 1 by rw [hzs]; simp [HN.out])
      have HZS := Lib.hid hzs
      rw [← hzs] at CI CS
      clear HEI h1 hzs
      refine (CI.out W (EE.out.below KW) SW.out).mono ?_
      rintro e w2 ⟨ax, rfl, rx, k2⟩
      dsimp only at rx ⊢
      rw [HZL.out] at rx ⊢
      have RX := Lib.hid rx
      have S2 := Lib.hid (SW.out.below k2)
      have K2 := below_next KW k2
      have A2 := Lib.hid (carryB k2 (by have := HLW.out; omega) AW.out)
      have hc2 := cell_of_block A2.out
      clear rx k2 KW kW SW aW hcW sW AW
      go_wp2_with fail
      refine (CS.out w2 S2.out).mono ?_
      rintro e w3 ⟨ay, cy, rfl, ry, k3⟩
      dsimp only at ry ⊢
      rw [HZL.out]
      have SY := Lib.hid (ry.slE six_len HZL.out)
      have RX3 := Lib.hid (RX.out.below k3)
      have S3 := Lib.hid (S2.out.below k3)
      have K3 := below_next K2 k3
      have A3 := Lib.hid (carryB k3 (by have := lt_of_block A2.out; omega) A2.out)
      clear ry k3 K2 RX S2 hc2 A2
      go_wp2_with fail
      refine (wpRows_c _ _ zs w3 (RX3.out.slE six_len HZL.out) SY.out).mono ?_
      rintro e w4 ⟨rfl, k4⟩
      have K4 := below_next K3 k4
      have RX4 := Lib.hid (RX3.out.below k4)
      have S4 := Lib.hid (S3.out.below k4)
      have A4 := Lib.hid (carryB k4 (by have := lt_of_block A3.out; omega) A3.out)
      clear k4 K3 RX3 SY S3 A3
      have hc4 := cell_of_block A4.out
      have hrw := RX4.out.rows six_len
      have SX4 := Lib.hid (RX4.out.slE six_len HZL.out)
      have cA := quiet_c (w := w4) (fun V hV => LedgerFar_c ax (N + 1) (N + 1) zs V (EE.out.below (below_next K4 hV)) (SX4.out.below hV) (by omega))
      rw [HFZ.out] at cA
      have htk : zs.take N = xs := by rw [HZS.out, HN.out]; simp
      have SP := Lib.hid (show IsSl w4 (.slice ax N (N + 1)) 6 En.cs xs from ⟨ax, N + 1, by rw [← HN.out], by have := HN.out; omega, by unfold maxLen; omega, htk ▸ hrw.taken (m := N)⟩)
      have cB := quiet_c (w := w4) (fun V hV => wpRows_c _ _ xs V (SP.out.below hV) (S4.out.below hV))
      have hNz : N < zs.length := by have := HZL.out; omega
      have hzN : zs[N] = ⟨⟨c, n, o, x, y⟩, sumL (lastSum xs) ((xs.length : Int) + 1) ⟨c, n, o, x, y⟩⟩ := by simp [HZS.out, HN.out]
      obtain ⟨b0, o0, rfl, hl0, hc0⟩ := hrw N hNz
      rw [hzN] at hc0
      have c0 : w4.cell? ⟨b0, o0 + N * 6, none⟩ = some (.int .i64 c) := hc0 0 (by decide)
      have c1 : w4.cell? ⟨b0, o0 + N * 6 + 1, none⟩ = some (.int .i64 n) := hc0 1 (by decide)
      have c2 : w4.cell? ⟨b0, o0 + N * 6 + 2, none⟩ = some (.int .i64 o) := hc0 2 (by decide)
      have c3 : w4.cell? ⟨b0, o0 + N * 6 + 3, none⟩ = some (.int .i64 x) := hc0 3 (by decide)
      have c4 : w4.cell? ⟨b0, o0 + N * 6 + 4, none⟩ = some (.int .i64 y) := hc0 4 (by decide)
      have f0 := cell_regrown c0
      have f1 := cell_regrown c1
      have f2 := cell_regrown c2
      have f3 := cell_regrown c3
      have f4 := cell_regrown c4
      have g4 := cell_re A4.out
      have KK := Lib.hid K4
      clear c0 c1 c2 c3 c4 hc0 hzN hrw htk K4 hNz
      go_wp2_with fail
      refine wp_region_quiet_below (by kernel_rfl) (by kernel_rfl) ?_
      repeat (go_big_quiet_step (first | with_reducible exact cA _ _ | with_reducible exact cB _ _))
      refine wpQuiet_nil ?_
      intro _ hw'
      obtain ⟨⟨dq, osq⟩, hw''⟩ := hw'
      subst hw''
      have KQ := below_next KK.out (below_regrown w4 dq osq)
      go_wp2_with fail
      go_ret
      exact ⟨rfl, KQ⟩
end Go.Proofs.YtbfnilfkhonpaaaDoor.fnLedgerAdd
