/- Votes compared by the reference (l3SameVotes); no condition. -/
import Derived.Test.YtgdhieffjflejaaSameS
import Derived.Test.YtgdhieffjflejaaQuiet
set_option linter.unusedSimpArgs false
set_option linter.unusedVariables false
namespace Go.Proofs.Ytgdhieffjflejaa
open Go.RowKit Go.Joins

/-- What a vote says, without where its claims lie. -/
def Vx.say (z : Vx) : Int × List Cl := (z.f, z.cl)

set_option maxRecDepth 100000 in
set_option maxHeartbeats 1000000 in
theorem l3SameVotes_c (va vb : Value) (xs ys : List Vx) (w : World) (ha : IsVs w va xs) (hb : IsVs w vb ys) :
    Calls Try.prog 54 #[va, vb] w fun e w' => e = .returned (.bool (decide (xs.map Vx.say = ys.map Vx.say))) ∧ Below w.heap.size w w' := by
  obtain ⟨⟨a, cap, rfl, hlc, hm, hra⟩, hca⟩ := ha
  obtain ⟨⟨b, cap', rfl, hlc', hm', hrb⟩, hcb⟩ := hb
  have HA := Lib.hid hra
  have HB := Lib.hid hrb
  have CA := Lib.hid hca
  have CB := Lib.hid hcb
  clear hra hrb hca hcb
  unfold maxLen at hm hm'
  by_cases hne : xs.length = ys.length
  · generalize hnn : xs.length = n at *
    have hnb : ys.length = n := hne.symm
    rw [hnb] at hlc' ⊢
    clear hne
    go_enter Try.func54, Try.ntmps54
    go_wp2_with fail
    go_loopw [5] (fun i wr => ∃ k : Nat, k ≤ n ∧ i = .int .i64 k ∧ (∀ j, j < k → (xs.map Vx.say)[j]? = (ys.map Vx.say)[j]?) ∧ Below w.heap.size w wr) (fun i _ => n - (intOf i).toNat)
    case atStart => exact ⟨0, Nat.zero_le _, rfl, fun j hj => absurd hj (Nat.not_lt_zero j), Below.refl _ _⟩
    case round =>
      obtain ⟨k, hk, rfl, hal, hbel⟩ := hrel
      have AL := Lib.hid hal
      clear hal
      by_cases hlt : k < n
      · have hka : k < xs.length := by omega
        have hkb : k < ys.length := by omega
        have hk1 : (k : Int) < (n : Int) := by omega
        have hk0 : (0 : Int) ≤ (k : Int) := by omega
        obtain ⟨b0, o0, rfl, hl0, hc0⟩ := HA.out k hka
        obtain ⟨b1, o1, rfl, hl1, hc1⟩ := HB.out k hkb
        have c0 : wr.cell? ⟨b0, o0 + k * 2, none⟩ = some (.int .i64 xs[k].f) := (hbel.cell (p := ⟨b0, _, none⟩) hl0).trans (hc0 0 (by decide))
        have c1 : wr.cell? ⟨b0, o0 + k * 2 + 1, none⟩ = some xs[k].sl := (hbel.cell (p := ⟨b0, _, none⟩) hl0).trans (hc0 1 (by decide))
        have d0 : wr.cell? ⟨b1, o1 + k * 2, none⟩ = some (.int .i64 ys[k].f) := (hbel.cell (p := ⟨b1, _, none⟩) hl1).trans (hc1 0 (by decide))
        have d1 : wr.cell? ⟨b1, o1 + k * 2 + 1, none⟩ = some ys[k].sl := (hbel.cell (p := ⟨b1, _, none⟩) hl1).trans (hc1 1 (by decide))
        have SX := Lib.hid ((CA.out xs[k] (List.getElem_mem hka)).below hbel)
        have SY := Lib.hid ((CB.out ys[k] (List.getElem_mem hkb)).below hbel)
        have HXY := Lib.hid (show xs[k].say = ys[k].say → ∀ j, j < k + 1 → (xs.map Vx.say)[j]? = (ys.map Vx.say)[j]? from fun he j hj => by
          by_cases hjk : j < k
          · exact AL.out j hjk
          · obtain rfl : j = k := by omega
            rw [List.getElem?_map, List.getElem?_map, List.getElem?_eq_getElem hka, List.getElem?_eq_getElem hkb, Option.map_some, Option.map_some, he])
        have HNO := Lib.hid (show xs[k].say ≠ ys[k].say → decide (xs.map Vx.say = ys.map Vx.say) = false from fun he => decide_eq_false fun hab => he (by
          have h1 : (xs.map Vx.say)[k]? = (ys.map Vx.say)[k]? := by rw [hab]
          rw [List.getElem?_map, List.getElem?_map, List.getElem?_eq_getElem hka, List.getElem?_eq_getElem hkb] at h1
          simpa using h1))
        clear hc0 hc1
        generalize xs[k] = x at c0 c1 SX HXY HNO
        generalize ys[k] = y at d0 d1 SY HXY HNO
        obtain ⟨F, sx, cx⟩ := x
        obtain ⟨F', sy, cy⟩ := y
        obtain ⟨ax, kx, hsx, -⟩ := SX.out
        obtain ⟨ay, ky, hsy, -⟩ := SY.out
        simp only at c0 c1 d0 d1 hsx hsy
        subst hsx hsy
        have cS := quietC (w := wr) (fun V hV => l3SameClaims_c _ _ cx cy V (SX.out.below hV) (SY.out.below hV))
        have e0 := cell_regrown c0
        have e1 := cell_regrown c1
        have g0 := cell_regrown d0
        have g1 := cell_regrown d1
        by_cases hF : F = F'
        · subst hF
          by_cases hC : cx = cy
          · have HX := Lib.hid (HXY.out (by simp [Vx.say, hC]))
            rw [show decide (cx = cy) = true from decide_eq_true hC] at cS
            clear hC HXY HNO
            go_wp2_with fail
            refine wp_region_quiet_below (by kernel_rfl) (by kernel_rfl) ?_
            repeat (go_big_quiet_step (with_reducible exact cS _ _))
            refine wpQuiet_nil ?_
            intro _ hw'
            obtain ⟨⟨dq, osq⟩, hw''⟩ := hw'
            subst hw''
            have KQ := below_next hbel (below_regrown wr dq osq)
            go_wp2_with fail
            refine ⟨⟨k + 1, by omega, by go_num, HX.out, KQ⟩, ?_⟩
            simp [intOf]; omega
          · have HX := Lib.hid (HNO.out (by simp [Vx.say, hC]))
            rw [show decide (cx = cy) = false from decide_eq_false hC] at cS
            clear hC HXY HNO
            go_wp2_with fail
            refine wp_region_quiet_below (by kernel_rfl) (by kernel_rfl) ?_
            repeat (go_big_quiet_step (with_reducible exact cS _ _))
            refine wpQuiet_nil ?_
            intro _ hw'
            obtain ⟨⟨dq, osq⟩, hw''⟩ := hw'
            subst hw''
            have KQ := below_next hbel (below_regrown wr dq osq)
            go_wp2_with fail
            go_ret
            exact ⟨ret_bool HX.out.symm, KQ⟩
        · have HX := Lib.hid (HNO.out (by simp [Vx.say, hF]))
          have hb1 : (F == F') = false := by simpa using hF
          have hb2 : (F != F') = true := by simpa using hF
          clear HXY HNO
          go_wp2_with fail
          refine wp_region_quiet_below (by kernel_rfl) (by kernel_rfl) ?_
          repeat (go_big_quiet_step (with_reducible exact cS _ _))
          refine wpQuiet_nil ?_
          intro _ hw'
          obtain ⟨⟨dq, osq⟩, hw''⟩ := hw'
          subst hw''
          have KQ := below_next hbel (below_regrown wr dq osq)
          go_wp2_with fail
          go_ret
          exact ⟨ret_bool HX.out.symm, KQ⟩
      · have HX := Lib.hid (show decide (xs.map Vx.say = ys.map Vx.say) = true from decide_eq_true (list_ext_upto (by simp; omega) (fun j hj => AL.out j (by simp at hj; omega))))
        go_wp2_with fail
        go_ret
        exact ⟨ret_bool HX.out.symm, hbel⟩
  · have hni : ¬ (xs.length : Int) = (ys.length : Int) := by omega
    have hnb : ((xs.length : Int) == (ys.length : Int)) = false := by simp; omega
    have HX := Lib.hid (show decide (xs.map Vx.say = ys.map Vx.say) = false from decide_eq_false fun h => hne (by have := congrArg List.length h; simpa using this))
    go_enter Try.func54, Try.ntmps54
    go_wp2_with fail
    go_ret
    exact ⟨ret_bool HX.out.symm, Below.refl _ _⟩
end Go.Proofs.Ytgdhieffjflejaa
