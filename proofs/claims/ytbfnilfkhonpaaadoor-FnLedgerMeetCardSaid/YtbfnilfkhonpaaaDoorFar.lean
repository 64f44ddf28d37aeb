/- Contracts of l7Far and LedgerFar: how many rows are right; condition: the package variables as listed. -/
import Derived.Test.YtbfnilfkhonpaaaDoorLed
namespace Go.Proofs.YtbfnilfkhonpaaaDoor
open Go.RowKit Go.Joins

theorem right_iff {zs : List En} {k : Nat} (hk : k < zs.length) : rightAt zs k = (decide (k < 60) && good zs[k].r && decide (zs[k].s = (sumL (prevAt zs k) ((k : Int) + 1) zs[k].r : Int))) := by
  unfold rightAt; rw [enAt_eq hk]
theorem good_eq (r : Rq) : good r = (noneB r.c r.n r.o r.x r.y || okB r.c r.n r.o r.x r.y) := rfl

set_option maxRecDepth 100000 in
set_option maxHeartbeats 4000000 in
theorem l7Far_c (a : Option Addr) (n cap : Nat) (zs : List En) (w : World) (h : IsSl w (.slice a n cap) 6 En.cs zs) (hn : n ≤ 16777216) :
    Calls Tryd.prog 62 #[.slice a n cap] w fun e w' => e = .returned (.int .i64 (far zs)) ∧ Below w.heap.size w w' := by
  obtain ⟨hzl, hlc, hm, hr⟩ := h.bounds
  have HR := Lib.hid hr
  have HZ := Lib.hid hzl
  clear hr h
  unfold maxLen at hm
  go_enter Tryd.func62, Tryd.ntmps62
  go_wp2_with fail
  go_loopw [3, 4] (fun s i wr => ∃ k : Nat, k ≤ n ∧ i = .int .i64 k ∧ s = .int .i64 (prevAt zs k) ∧ (∀ j, j < k → rightAt zs j = true) ∧ Below w.heap.size w wr) (fun _ i _ => n - (intOf i).toNat)
  case atStart => exact ⟨0, Nat.zero_le _, rfl, rfl, fun j hj => absurd hj (Nat.not_lt_zero j), Below.refl _ _⟩
  case round =>
    obtain ⟨k, hk, rfl, rfl, hall, hbel⟩ := hrel
    have hpb := prevAt_bounds hall
    have HA := Lib.hid hall
    clear hall
    by_cases hlt : k < n
    · have hkz : k < zs.length := by rw [HZ.out]; exact hlt
      have hk1 : (k : Int) < (n : Int) := by omega
      have hk0 : (0 : Int) ≤ (k : Int) := by omega
      obtain ⟨b0, o0, rfl, hl0, hc0⟩ := six_at HR.out k hkz
      obtain ⟨c0, c1, c2, c3, c4, c5⟩ := hc0 wr hbel
      have HX := Lib.hid (right_iff hkz)
      have HP := Lib.hid (prevAt_succ zs k)
      have HE := Lib.hid (enAt_eq hkz)
      clear hc0
      generalize zs[k] = z at *
      generalize hq : prevAt zs k = q at *
      have hlw : b0 < wr.heap.size := Nat.lt_of_lt_of_le hl0 hbel.size
      go_wp2_with fail
      obtain ⟨W, hW, sW, aW, kW⟩ := blocks1 wr (.cells #[.int .i64 z.r.c, .int .i64 z.r.n, .int .i64 z.r.o, .int .i64 z.r.x, .int .i64 z.r.y] 42)
      rw [← hW]
      clear hW
      have hcW := cell_of_block aW
      refine (l1Ok_c z.r.c z.r.n z.r.o z.r.x z.r.y W).mono ?_
      rintro e w1 ⟨rfl, k1⟩
      have K1 := below_next kW k1
      have a1 := carryB k1 (by omega) aW
      clear hcW
      have hc1 := cell_of_block a1
      have d5 : w1.cell? ⟨b0, o0 + k * 6 + 5, none⟩ = some (.int .i64 z.s) := cell_stays K1 c5
      clear kW k1 aW c0 c1 c2 c3 c4 c5
      cases hok : okB z.r.c z.r.n z.r.o z.r.x z.r.y with
      | true =>
        by_cases h60 : (k : Int) < 60
        · go_wp2_with fail
          refine (l7Sum_c q ((k : Int) + 1) z.r w1 (by omega) (by omega) (by omega) (by omega)).mono ?_
          rintro e w9 ⟨rfl, k9⟩
          have K9 := below_next K1 k9
          have d9 : w9.cell? ⟨b0, o0 + k * 6 + 5, none⟩ = some (.int .i64 z.s) := cell_stays k9 d5
          have hb9 := below_next hbel K9
          clear k9
          have hg : good z.r = true := by rw [good_eq, hok]; simp
          by_cases hs : z.s = (sumL q ((k : Int) + 1) z.r : Int)
          · have hrt : rightAt zs k = true := by rw [HX.out, hg, decide_eq_true hs]; simp; omega
            have hps : prevAt zs (k + 1) = (sumL q ((k : Int) + 1) z.r : Int) := by rw [HP.out, HE.out, hs]
            have hall2 : ∀ j, j < k + 1 → rightAt zs j = true := fun j hj => by
              by_cases e : j = k
              · rw [e]; exact hrt
              · exact HA.out j (by omega)
            have H2 := Lib.hid (And.intro hps hall2)
            rw [hs] at d9
            clear hps hall2 hrt hs
            generalize (sumL q ((k : Int) + 1) z.r : Int) = sm at *
            go_wp2_with fail
            go_roundw
            case rel => exact ⟨k + 1, by omega, by go_num, by rw [H2.out.1], H2.out.2, hb9⟩
            case measure => simp [intOf]; omega
          · have hrt : rightAt zs k = false := by rw [HX.out, hg, decide_eq_false hs]; simp
            have hf : far zs = k := far_eq ⟨by rw [HZ.out]; exact hk, HA.out, fun _ => hrt⟩
            have hs' : (z.s == (sumL q ((k : Int) + 1) z.r : Int)) = false := by simpa using hs
            have HF := Lib.hid hf
            clear hf hrt
            generalize (sumL q ((k : Int) + 1) z.r : Int) = sm at *
            go_wp2_with fail
            go_ret
            exact ⟨ret_int (by rw [HF.out]), hb9⟩
        · have hrt : rightAt zs k = false := by rw [HX.out, decide_eq_false (by omega)]; simp
          have hf : far zs = k := far_eq ⟨by rw [HZ.out]; exact hk, HA.out, fun _ => hrt⟩
          have HF := Lib.hid hf
          clear hf hrt
          go_wp2_with fail
          go_ret
          exact ⟨ret_int (by rw [HF.out]), below_next hbel K1⟩
      | false =>
        go_wp2_with fail
        refine (l1None_c z.r.c z.r.n z.r.o z.r.x z.r.y w1).mono ?_
        rintro e w2 ⟨rfl, k2⟩
        have K2 := below_next K1 k2
        have a2 := carryB k2 (lt_of_block a1) a1
        clear hc1
        have hc2 := cell_of_block a2
        have d6 : w2.cell? ⟨b0, o0 + k * 6 + 5, none⟩ = some (.int .i64 z.s) := cell_stays k2 d5
        clear k2 a1 K1 d5
        cases hno : noneB z.r.c z.r.n z.r.o z.r.x z.r.y with
        | true =>
          by_cases h60 : (k : Int) < 60
          · go_wp2_with fail
            refine (l7Sum_c q ((k : Int) + 1) z.r w2 (by omega) (by omega) (by omega) (by omega)).mono ?_
            rintro e w9 ⟨rfl, k9⟩
            have K9 := below_next K2 k9
            have d9 : w9.cell? ⟨b0, o0 + k * 6 + 5, none⟩ = some (.int .i64 z.s) := cell_stays k9 d6
            have hb9 := below_next hbel K9
            clear k9
            have hg : good z.r = true := by rw [good_eq, hok, hno]; rfl
            by_cases hs : z.s = (sumL q ((k : Int) + 1) z.r : Int)
            · have hrt : rightAt zs k = true := by rw [HX.out, hg, decide_eq_true hs]; simp; omega
              have hps : prevAt zs (k + 1) = (sumL q ((k : Int) + 1) z.r : Int) := by rw [HP.out, HE.out, hs]
              have hall2 : ∀ j, j < k + 1 → rightAt zs j = true := fun j hj => by
                by_cases e : j = k
                · rw [e]; exact hrt
                · exact HA.out j (by omega)
              have H2 := Lib.hid (And.intro hps hall2)
              rw [hs] at d9
              clear hps hall2 hrt hs
              generalize (sumL q ((k : Int) + 1) z.r : Int) = sm at *
              go_wp2_with fail
              go_roundw
              case rel => exact ⟨k + 1, by omega, by go_num, by rw [H2.out.1], H2.out.2, hb9⟩
              case measure => simp [intOf]; omega
            · have hrt : rightAt zs k = false := by rw [HX.out, hg, decide_eq_false hs]; simp
              have hf : far zs = k := far_eq ⟨by rw [HZ.out]; exact hk, HA.out, fun _ => hrt⟩
              have hs' : (z.s == (sumL q ((k : Int) + 1) z.r : Int)) = false := by simpa using hs
              have HF := Lib.hid hf
              clear hf hrt
              generalize (sumL q ((k : Int) + 1) z.r : Int) = sm at *
              go_wp2_with fail
              go_ret
              exact ⟨ret_int (by rw [HF.out]), hb9⟩
          · have hrt : rightAt zs k = false := by rw [HX.out, decide_eq_false (by omega)]; simp
            have hf : far zs = k := far_eq ⟨by rw [HZ.out]; exact hk, HA.out, fun _ => hrt⟩
            have HF := Lib.hid hf
            clear hf hrt
            go_wp2_with fail
            go_ret
            exact ⟨ret_int (by rw [HF.out]), below_next hbel K2⟩
        | false =>
          have hg : good z.r = false := by rw [good_eq, hok, hno]; rfl
          have hrt : rightAt zs k = false := by rw [HX.out, hg]; simp
          have hf : far zs = k := far_eq ⟨by rw [HZ.out]; exact hk, HA.out, fun _ => hrt⟩
          have HF := Lib.hid hf
          clear hf hrt
          go_wp2_with fail
          go_ret
          exact ⟨ret_int (by rw [HF.out]), below_next hbel K2⟩
    · have hf : far zs = n := far_eq ⟨by rw [HZ.out]; exact Nat.le_refl _, fun j hj => HA.out j (by omega), fun h => by rw [HZ.out] at h; omega⟩
      have HF := Lib.hid hf
      clear hf
      go_wp2_with fail
      go_ret
      exact ⟨ret_int (by rw [HF.out]), hbel⟩
end Go.Proofs.YtbfnilfkhonpaaaDoor
