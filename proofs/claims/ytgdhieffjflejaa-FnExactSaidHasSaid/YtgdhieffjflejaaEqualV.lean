/- Votes compared by the program: slices.EqualFunc with the test that MsgSame hands on; no condition. -/
import Derived.Test.YtgdhieffjflejaaEqualS
set_option linter.unusedSimpArgs false
set_option linter.unusedVariables false
namespace Go.Proofs.Ytgdhieffjflejaa
open Go.RowKit Go.Joins

set_option maxRecDepth 100000 in
set_option maxHeartbeats 1000000 in
theorem slEqualFunc_c (va vb : Value) (xs ys : List Vx) (w : World) (ha : IsVs w va xs) (hb : IsVs w vb ys) :
    Calls Try.prog 30 #[va, vb, .func (.func 31) #[] #[]] w fun e w' => e = .returned (.bool (decide (xs.map Vx.say = ys.map Vx.say))) ∧ Below w.heap.size w w' := by
  obtain ⟨⟨a, cap, rfl, hlc, hm, hra⟩, hca⟩ := ha
  obtain ⟨⟨b, cap', rfl, hlc', hm', hrb⟩, hcb⟩ := hb
  have HA := Lib.hid hra
  have HB := Lib.hid hrb
  have CA := Lib.hid hca
  have CB := Lib.hid hcb
  clear hra hrb hca hcb
  unfold maxLen at hm hm'
  by_cases hne : xs.length = ys.length
  · generalize hnn : xs.length = n at *
    have hnb : ys.length = n := hne.symm
    rw [hnb] at hlc' ⊢
    clear hne
    go_enter Try.func30, Try.ntmps30
    go_wp2_with fail
    go_loopw [17] (fun i wr => ∃ k : Nat, k ≤ n ∧ i = .int .i64 k ∧ (∀ j, j < k → (xs.map Vx.say)[j]? = (ys.map Vx.say)[j]?) ∧ Below w.heap.size w wr) (fun i _ => n - (intOf i).toNat)
    case atStart => exact ⟨0, Nat.zero_le _, rfl, fun j hj => absurd hj (Nat.not_lt_zero j), Below.refl _ _⟩
    case round =>
      obtain ⟨k, hk, rfl, hal, hbel⟩ := hrel
      have AL := Lib.hid hal
      clear hal
      by_cases hlt : k < n
      · have hka : k < xs.length := by omega
        have hkb : k < ys.length := by omega
        have hk1 : (k : Int) < (n : Int) := by omega
        have hk0 : (0 : Int) ≤ (k : Int) := by omega
        obtain ⟨b0, o0, rfl, hl0, hc0⟩ := HA.out k hka
        obtain ⟨b1, o1, rfl, hl1, hc1⟩ := HB.out k hkb
        have c0 : wr.cell? ⟨b0, o0 + k * 2, none⟩ = some (.int .i64 xs[k].f) := (hbel.cell (p := ⟨b0, _, none⟩) hl0).trans (hc0 0 (by decide))
        have c1 : wr.cell? ⟨b0, o0 + k * 2 + 1, none⟩ = some xs[k].sl := (hbel.cell (p := ⟨b0, _, none⟩) hl0).trans (hc0 1 (by decide))
        have d0 : wr.cell? ⟨b1, o1 + k * 2, none⟩ = some (.int .i64 ys[k].f) := (hbel.cell (p := ⟨b1, _, none⟩) hl1).trans (hc1 0 (by decide))
        have d1 : wr.cell? ⟨b1, o1 + k * 2 + 1, none⟩ = some ys[k].sl := (hbel.cell (p := ⟨b1, _, none⟩) hl1).trans (hc1 1 (by decide))
        have SX := Lib.hid ((CA.out xs[k] (List.getElem_mem hka)).below hbel)
        have SY := Lib.hid ((CB.out ys[k] (List.getElem_mem hkb)).below hbel)
        have HXY := Lib.hid (show xs[k].say = ys[k].say → ∀ j, j < k + 1 → (xs.map Vx.say)[j]? = (ys.map Vx.say)[j]? from fun he j hj => by
          by_cases hjk : j < k
          · exact AL.out j hjk
          · obtain rfl : j = k := by omega
            rw [List.getElem?_map, List.getElem?_map, List.getElem?_eq_getElem hka, List.getElem?_eq_getElem hkb, Option.map_some, Option.map_some, he])
        have HNO := Lib.hid (show xs[k].say ≠ ys[k].say → decide (xs.map Vx.say = ys.map Vx.say) = false from fun he => decide_eq_false fun hab => he (by
          have h1 : (xs.map Vx.say)[k]? = (ys.map Vx.say)[k]? := by rw [hab]
          rw [List.getElem?_map, List.getElem?_map, List.getElem?_eq_getElem hka, List.getElem?_eq_getElem hkb] at h1
          simpa using h1))
        clear hc0 hc1
        generalize xs[k] = x at c0 c1 SX HXY HNO
        generalize ys[k] = y at d0 d1 SY HXY HNO
        obtain ⟨F, sx, cx⟩ := x
        obtain ⟨F', sy, cy⟩ := y
        obtain ⟨ax, kx, hsx, -⟩ := SX.out
        obtain ⟨ay, ky, hsy, -⟩ := SY.out
        simp only at c0 c1 d0 d1 hsx hsy
        subst hsx hsy
        have HD : decide ((F, cx) = (F', cy)) = decide (Vx.say ⟨F, .slice ax cx.length kx, cx⟩ = Vx.say ⟨F', .slice ay cy.length ky, cy⟩) := rfl
        have hlr0 : b0 < wr.heap.size := Nat.lt_of_lt_of_le hl0 hbel.size
        have hlr1 : b1 < wr.heap.size := Nat.lt_of_lt_of_le hl1 hbel.size
        have gg0 : (wr.alloc (.cells #[.int .i64 F, .slice ax cx.length kx] 65)).cell? ⟨b1, o1 + k * 2, none⟩ = some (.int .i64 F') := ((Below.alloc (Below.refl wr.heap.size wr) (Nat.le_refl _) _).cell (p := ⟨b1, _, none⟩) hlr1).trans d0
        have gg1 : (wr.alloc (.cells #[.int .i64 F, .slice ax cx.length kx] 65)).cell? ⟨b1, o1 + k * 2 + 1, none⟩ = some (.slice ay cy.length ky) := ((Below.alloc (Below.refl wr.heap.size wr) (Nat.le_refl _) _).cell (p := ⟨b1, _, none⟩) hlr1).trans d1
        go_wp2_with fail
        obtain ⟨W, hW, sW, aW, bW, kW⟩ := blocks2 wr (.cells #[.int .i64 F, .slice ax cx.length kx] 65) (.cells #[.int .i64 F', .slice ay cy.length ky] 65)
        rw [← hW]
        clear hW
        refine (voteFn_c F F' ax ay _ kx _ ky cx cy W (SX.out.below kW) (SY.out.below kW)).mono ?_
        rintro e w1 ⟨rfl, k1⟩
        have hbel1 := below_next hbel (below_next kW k1)
        rw [HD]
        clear c0 c1 d0 d1 gg0 gg1 kW k1 aW bW sW HD hbel
        by_cases hS : Vx.say ⟨F, .slice ax cx.length kx, cx⟩ = Vx.say ⟨F', .slice ay cy.length ky, cy⟩
        · have HX := Lib.hid (HXY.out hS)
          rw [decide_eq_true hS]
          clear hS HXY HNO
          go_wp2_with fail
          refine ⟨⟨k + 1, by omega, by go_num, HX.out, hbel1⟩, ?_⟩
          simp [intOf]; omega
        · have HX := Lib.hid (HNO.out hS)
          rw [decide_eq_false hS]
          clear hS HXY HNO
          go_wp2_with fail
          go_ret
          exact ⟨ret_bool HX.out.symm, hbel1⟩
      · have HX := Lib.hid (show decide (xs.map Vx.say = ys.map Vx.say) = true from decide_eq_true (list_ext_upto (by simp; omega) (fun j hj => AL.out j (by simp at hj; omega))))
        go_wp2_with fail
        go_ret
        exact ⟨ret_bool HX.out.symm, hbel⟩
  · have hni : ¬ (xs.length : Int) = (ys.length : Int) := by omega
    have hnb : ((xs.length : Int) == (ys.length : Int)) = false := by simp; omega
    have HX := Lib.hid (show decide (xs.map Vx.say = ys.map Vx.say) = false from decide_eq_false fun h => hne (by have := congrArg List.length h; simpa using this))
    go_enter Try.func30, Try.ntmps30
    go_wp2_with fail
    go_ret
    exact ⟨ret_bool HX.out.symm, Below.refl _ _⟩
end Go.Proofs.Ytgdhieffjflejaa
