/- Contract of the program's LedgerFar; condition: the package variables as listed. -/
import Derived.Test.YtbfnilfkhonpaaaDoorFar
import Derived.BigQuiet
namespace Go.Proofs.YtbfnilfkhonpaaaDoor
open Go.RowKit Go.Joins

theorem RowsAt.taken {α : Type} {w : World} {a : Option Addr} {k m : Nat} {R : α → List Value} {zs : List α} (h : RowsAt w a k R zs) : RowsAt w a k R (zs.take m) := by
  intro i hi
  have hi2 : i < zs.length := Nat.lt_of_lt_of_le hi (by simp; omega)
  obtain ⟨b, off, e, hb, hc⟩ := h i hi2
  refine ⟨b, off, e, hb, fun j hj => ?_⟩
  rw [List.getElem_take]
  exact hc j hj
theorem IsSl.taken {α : Type} {w : World} {a : Option Addr} {n cap k m : Nat} {R : α → List Value} {zs : List α} (h : IsSl w (.slice a n cap) k R zs) (hm : m ≤ n) : IsSl w (.slice a m cap) k R (zs.take m) := by
  obtain ⟨h1, h2, h3, h4⟩ := h.bounds
  have e : (zs.take m).length = m := by simp; omega
  exact ⟨a, cap, by rw [e], by rw [e]; omega, h3, h4.taken⟩
theorem lastSum_take {zs : List En} {k : Nat} (h : k ≤ zs.length) : lastSum (zs.take k) = prevAt zs k := by
  have e : (zs.take k).length = k := by simp; omega
  unfold lastSum
  rw [e]
  unfold prevAt
  split
  · rfl
  · rw [enAt_take (by omega)]

set_option maxRecDepth 100000 in
set_option maxHeartbeats 4000000 in
theorem LedgerFar_c (a : Option Addr) (n cap : Nat) (zs : List En) (w : World) (E : Env w) (h : IsSl w (.slice a n cap) 6 En.cs zs) (hn : n ≤ 16777216) :
    Calls Tryd.prog 23 #[.slice a n cap] w fun e w' => e = .returned (.int .i64 (far zs)) ∧ Below w.heap.size w w' := by
  obtain ⟨hzl, hlc, hm, hr⟩ := h.bounds
  have EE := Lib.hid E
  have HH := Lib.hid h
  have HR := Lib.hid hr
  have HZ := Lib.hid hzl
  clear hr h E
  unfold maxLen at hm
  go_enter Tryd.func23, Tryd.ntmps23
  go_wp2_with fail
  go_loopw [3] (fun i wr => ∃ k : Nat, k ≤ n ∧ i = .int .i64 k ∧ (∀ j, j < k → rightAt zs j = true) ∧ Below w.heap.size w wr) (fun i _ => n - (intOf i).toNat)
  case atStart => exact ⟨0, Nat.zero_le _, rfl, fun j hj => absurd hj (Nat.not_lt_zero j), Below.refl _ _⟩
  case round =>
    obtain ⟨k, hk, rfl, hall, hbel⟩ := hrel
    have hpb := prevAt_bounds hall
    have HA := Lib.hid hall
    have HB := Lib.hid hbel
    clear hall
    have stop : rightAt zs k = false ∨ n ≤ k → far zs = k := fun h => far_eq ⟨by rw [HZ.out]; exact hk, HA.out, fun hl => by
      rcases h with h | h
      · exact h
      · rw [HZ.out] at hl; omega⟩
    have HS := Lib.hid stop
    clear stop
    by_cases hlt : k < n
    · have hkz : k < zs.length := by rw [HZ.out]; exact hlt
      have hk1 : (k : Int) < (n : Int) := by omega
      have hk0 : (0 : Int) ≤ (k : Int) := by omega
      have hkc : k ≤ cap := by omega
      obtain ⟨b0, o0, rfl, hl0, hc0⟩ := six_at HR.out k hkz
      obtain ⟨c0, c1, c2, c3, c4, c5⟩ := hc0 wr hbel
      have HX := Lib.hid (right_iff hkz)
      have HL := Lib.hid (lastSum_take (Nat.le_of_lt hkz))
      have HT := Lib.hid (HH.out.taken (Nat.le_of_lt hlt))
      clear hc0
      generalize zs[k] = z at *
      generalize hq : prevAt zs k = q at *
      clear hq
      have e0 := cell_regrown c0
      have e1 := cell_regrown c1
      have e2 := cell_regrown c2
      have e3 := cell_regrown c3
      have e4 := cell_regrown c4
      have e5 := cell_regrown c5
      clear c0 c1 c2 c3 c4 c5
      by_cases h60 : (k : Int) < 60
      · cases hg : good z.r with
        | true =>
          have cG := quiet_c (w := wr) (fun V _ => by have := okOrNull_c z.r.c z.r.n z.r.o z.r.x z.r.y V; rw [show goodB z.r.c z.r.n z.r.o z.r.x z.r.y = true from hg] at this; exact this)
          have cL := quiet_c (w := wr) (fun V hV => by
            have := link_c (some ⟨b0, o0, none⟩) k cap (zs.take k) z.r V (EE.out.below (below_next HB.out hV)) (HT.out.below (below_next HB.out hV)) (by omega) (by rw [HL.out]; omega) (by rw [HL.out]; omega)
            rw [HL.out] at this
            exact this)
          have hsm := sumL_lt q ((k : Int) + 1) z.r
          by_cases hs : z.s = (sumL q ((k : Int) + 1) z.r : Int)
          · have hrt : rightAt zs k = true := by rw [HX.out, hg, decide_eq_true hs]; simp; omega
            have hall2 : ∀ j, j < k + 1 → rightAt zs j = true := fun j hj => by
              by_cases e : j = k
              · rw [e]; exact hrt
              · exact HA.out j (by omega)
            have H2 := Lib.hid hall2
            clear hall2 hrt
            rw [hs] at e5
            clear hs hg
            generalize (sumL q ((k : Int) + 1) z.r : Int) = sm at *
            go_wp2_with fail
            refine wp_region_quiet_below (by kernel_rfl) (by kernel_rfl) ?_
            repeat (go_big_quiet_step (first | with_reducible exact cG _ _ | with_reducible exact cL _ _))
            refine wpQuiet_nil ?_
            intro _ hw'
            obtain ⟨⟨dq, osq⟩, hw''⟩ := hw'
            subst hw''
            have KQ := below_next HB.out (below_regrown wr dq osq)
            go_wp2_with fail
            go_roundw
            case rel => exact ⟨k + 1, by omega, by go_num, H2.out, KQ⟩
            case measure => simp [intOf]; omega
          · have hs' : (z.s == (sumL q ((k : Int) + 1) z.r : Int)) = false := by simpa using hs
            have HN := Lib.hid (show rightAt zs k = false by rw [HX.out, decide_eq_false hs]; simp)
            clear hs hg
            generalize (sumL q ((k : Int) + 1) z.r : Int) = sm at *
            have HF := Lib.hid (HS.out (.inl HN.out))
            go_wp2_with fail
            refine wp_region_quiet_below (by kernel_rfl) (by kernel_rfl) ?_
            repeat (go_big_quiet_step (first | with_reducible exact cG _ _ | with_reducible exact cL _ _))
            refine wpQuiet_nil ?_
            intro _ hw'
            obtain ⟨⟨dq, osq⟩, hw''⟩ := hw'
            subst hw''
            have KQ := below_next HB.out (below_regrown wr dq osq)
            go_wp2_with fail
            go_ret
            exact ⟨ret_int (by rw [HF.out]), KQ⟩
        | false =>
          have cG := quiet_c (w := wr) (fun V _ => by have := okOrNull_c z.r.c z.r.n z.r.o z.r.x z.r.y V; rw [show goodB z.r.c z.r.n z.r.o z.r.x z.r.y = false from hg] at this; exact this)
          have HN := Lib.hid (show rightAt zs k = false by rw [HX.out, hg]; simp)
          clear hg
          have HF := Lib.hid (HS.out (.inl HN.out))
          go_wp2_with fail
          refine wp_region_quiet_below (by kernel_rfl) (by kernel_rfl) ?_
          repeat (go_big_quiet_step (first | with_reducible exact cG _ _))
          refine wpQuiet_nil ?_
          intro _ hw'
          obtain ⟨⟨dq, osq⟩, hw''⟩ := hw'
          subst hw''
          have KQ := below_next HB.out (below_regrown wr dq osq)
          go_wp2_with fail
          go_ret
          exact ⟨ret_int (by rw [HF.out]), KQ⟩
      · have HN := Lib.hid (show rightAt zs k = false by rw [HX.out, decide_eq_false (by omega)]; simp)
        have hd : decide ((k : Int) < 60) = false := by simpa using h60
        have hd' : decide (k < 60) = false := by simp; omega
        clear h60
        have HF := Lib.hid (HS.out (.inl HN.out))
        go_wp2_with fail
        refine wp_region_quiet_below (by kernel_rfl) (by kernel_rfl) ?_
        repeat (go_big_quiet_step (fail))
        refine wpQuiet_nil ?_
        intro _ hw'
        obtain ⟨⟨dq, osq⟩, hw''⟩ := hw'
        subst hw''
        have KQ := below_next HB.out (below_regrown wr dq osq)
        go_wp2_with fail
        go_ret
        exact ⟨ret_int (by rw [HF.out]), KQ⟩
    · have HF := Lib.hid (HS.out (.inr (by omega)))
      have hd : decide (k < n) = false := by simp; omega
      clear hlt
      go_wp2_with fail
      refine wp_region_quiet_below (by kernel_rfl) (by kernel_rfl) ?_
      repeat (go_big_quiet_step (fail))
      refine wpQuiet_nil ?_
      intro _ hw'
      obtain ⟨⟨dq, osq⟩, hw''⟩ := hw'
      subst hw''
      have KQ := below_next HB.out (below_regrown wr dq osq)
      go_wp2_with fail
      go_ret
      exact ⟨ret_int (by rw [HF.out]), KQ⟩

set_option maxHeartbeats 1000000 in
theorem sLedgerFar_c (a : Option Addr) (n cap : Nat) (zs : List En) (w : World) (h : IsSl w (.slice a n cap) 6 En.cs zs) (hn : n ≤ 16777216) :
    Calls Tryd.prog 25 #[.slice a n cap] w fun e w' => e = .returned (.int .i64 (far zs)) ∧ Below w.heap.size w w' := by
  have HH := Lib.hid h
  clear h
  go_enter Tryd.func25, Tryd.ntmps25
  go_wp2_with fail
  refine (l7Far_c a n cap zs _ HH.out hn).mono ?_
  rintro e w1 ⟨rfl, k1⟩
  go_wp2_with fail
  go_ret
  exact ⟨rfl, k1⟩
end Go.Proofs.YtbfnilfkhonpaaaDoor
