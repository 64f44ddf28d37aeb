/- Votes and letters that are ok, by the reference (l3VotesOk, l3Ok); no condition. -/
import Derived.Test.YtgdhieffjflejaaOkC
set_option linter.unusedSimpArgs false
set_option linter.unusedVariables false
namespace Go.Proofs.Ytgdhieffjflejaa
open Go.RowKit Go.Joins


theorem l1In_b (n lo hi : Int) (w : World) :
    Calls Try.prog 42 #[.int .i64 n, .int .i64 lo, .int .i64 hi] w fun e w' => e = .returned (.bool (inB n lo hi)) ∧ Below w.heap.size w w' :=
  (l1In_c n lo hi w).mono fun _ _ ⟨h, e⟩ => ⟨h, e ▸ Below.refl _ _⟩
def voteOkB (z : Vx) : Bool := inB z.f 0 3 && claimsOkB z.cl
/-- The vote number k is ok where it stands. -/
def okVAt (vs : List Vx) : Nat → Bool
  | 0 => match vs[0]? with
    | some z => voteOkB z
    | none => true
  | k + 1 => match vs[k + 1]?, vs[k]? with
    | some z, some p => voteOkB z && decide (p.f < z.f)
    | _, _ => true
def votesOkB (vs : List Vx) : Bool := (List.range vs.length).all (okVAt vs)
theorem okVAt_zero {vs : List Vx} (h : 0 < vs.length) : okVAt vs 0 = voteOkB vs[0] := by simp [okVAt, List.getElem?_eq_getElem h]
theorem okVAt_succ {vs : List Vx} {m : Nat} (h : m + 1 < vs.length) : okVAt vs (m + 1) = (voteOkB vs[m + 1] && decide ((vs[m]'(by omega)).f < vs[m + 1].f)) := by
  simp [okVAt, List.getElem?_eq_getElem h, List.getElem?_eq_getElem (show m < vs.length by omega)]

set_option maxRecDepth 100000 in
set_option maxHeartbeats 4000000 in
theorem l3VotesOk_c (va : Value) (xs : List Vx) (w : World) (ha : IsVs w va xs) :
    Calls Try.prog 92 #[va] w fun e w' => e = .returned (.bool (votesOkB xs)) ∧ Below w.heap.size w w' := by
  obtain ⟨⟨a, cap, rfl, hlc, hm, hra⟩, hca⟩ := ha
  have HA := Lib.hid hra
  have CA := Lib.hid hca
  clear hra hca
  unfold maxLen at hm
  generalize hnn : xs.length = n at *
  go_enter Try.func92, Try.ntmps92
  go_wp2_with fail
  go_loopw [3] (fun i wr => ∃ k : Nat, k ≤ n ∧ i = .int .i64 k ∧ (∀ j, j < k → okVAt xs j = true) ∧ Below w.heap.size w wr) (fun i _ => n - (intOf i).toNat)
  case atStart => exact ⟨0, Nat.zero_le _, rfl, fun j hj => absurd hj (Nat.not_lt_zero j), Below.refl _ _⟩
  case round =>
    obtain ⟨k, hk, rfl, hal, hbel⟩ := hrel
    have AL := Lib.hid hal
    clear hal
    by_cases hlt : k < n
    · have hka : k < xs.length := by omega
      have hk1 : (k : Int) < (n : Int) := by omega
      have hk0 : (0 : Int) ≤ (k : Int) := by omega
      have hkW : IntKind.i64.wrap (k : Int) = (k : Int) := IntWalk.i64_in _ ⟨by omega, by omega⟩
      have HYES := Lib.hid (show okVAt xs k = true → ∀ j, j < k + 1 → okVAt xs j = true from fun h j hj => by
        by_cases hj' : j < k
        · exact AL.out j hj'
        · obtain rfl : j = k := by omega
          exact h)
      have HNO := Lib.hid (show okVAt xs k = false → votesOkB xs = false from fun h => all_no hka h)
      obtain ⟨b0, o0, rfl, hl0, hc0⟩ := HA.out k hka
      have c0 : wr.cell? ⟨b0, o0 + k * 2, none⟩ = some (.int .i64 xs[k].f) := (hbel.cell (p := ⟨b0, _, none⟩) hl0).trans (hc0 0 (by decide))
      have c1 : wr.cell? ⟨b0, o0 + k * 2 + 1, none⟩ = some xs[k].sl := (hbel.cell (p := ⟨b0, _, none⟩) hl0).trans (hc0 1 (by decide))
      have SX := Lib.hid ((CA.out xs[k] (List.getElem_mem hka)).below hbel)
      cases k with
      | zero =>
        have hO := okVAt_zero hka
        clear hc0
        simp only [Nat.zero_mul, Nat.add_zero] at c0 c1
        generalize xs[0] = z at *
        obtain ⟨F, sx, cx⟩ := z
        obtain ⟨ax, kx, hsx, -⟩ := SX.out
        simp only at c0 c1 hsx hO
        subst hsx
        have cI := quietC (w := wr) (fun V hV => l1In_b F 0 3 V)
        have cS := quietC (w := wr) (fun V hV => l3ClaimsOk_c _ cx V (SX.out.below hV))
        have e0 := cell_regrown c0
        have e1 := cell_regrown c1
        have hz : ((0 : Nat) : Int) = 0 := rfl
        cases h1 : inB F 0 3 with
        | false =>
          have HX := Lib.hid (HNO.out (by rw [hO]; simp [voteOkB, h1]))
          rw [h1] at cI
          clear HYES HNO hO h1 c0 c1
          go_wp2_with fail
          refine wp_region_quiet_below (by kernel_rfl) (by kernel_rfl) ?_
          repeat (go_big_quiet_step (first | with_reducible exact cI _ _ | with_reducible exact cS _ _))
          refine wpQuiet_nil ?_
          intro _ hw'
          obtain ⟨⟨dq, osq⟩, hw''⟩ := hw'
          subst hw''
          have KQ := below_next hbel (below_regrown wr dq osq)
          go_wp2_with fail
          go_ret
          exact ⟨ret_bool HX.out.symm, KQ⟩
        | true =>
          cases h2 : claimsOkB cx with
          | false =>
            have HX := Lib.hid (HNO.out (by rw [hO]; simp [voteOkB, h1, h2]))
            rw [h1] at cI
            rw [h2] at cS
            clear HYES HNO hO h1 c0 c1 h2
            go_wp2_with fail
            refine wp_region_quiet_below (by kernel_rfl) (by kernel_rfl) ?_
            repeat (go_big_quiet_step (first | with_reducible exact cI _ _ | with_reducible exact cS _ _))
            refine wpQuiet_nil ?_
            intro _ hw'
            obtain ⟨⟨dq, osq⟩, hw''⟩ := hw'
            subst hw''
            have KQ := below_next hbel (below_regrown wr dq osq)
            go_wp2_with fail
            go_ret
            exact ⟨ret_bool HX.out.symm, KQ⟩
          | true =>
            have HX := Lib.hid (HYES.out (by rw [hO]; simp [voteOkB, h1, h2]))
            rw [h1] at cI
            rw [h2] at cS
            clear HYES HNO hO h1 c0 c1 h2
            go_wp2_with fail
            refine wp_region_quiet_below (by kernel_rfl) (by kernel_rfl) ?_
            repeat (go_big_quiet_step (first | with_reducible exact cI _ _ | with_reducible exact cS _ _))
            refine wpQuiet_nil ?_
            intro _ hw'
            obtain ⟨⟨dq, osq⟩, hw''⟩ := hw'
            subst hw''
            have KQ := below_next hbel (below_regrown wr dq osq)
            go_wp2_with fail
            refine ⟨⟨0 + 1, by omega, by go_num, HX.out, KQ⟩, ?_⟩
            simp [intOf]; omega
      | succ m =>
        have hO := okVAt_succ hka
        have hmz : m < xs.length := by omega
        obtain ⟨b', o', eb, hbm, hcm⟩ := HA.out m hmz
        simp only [Option.some.injEq, Addr.mk.injEq, and_true] at eb
        obtain ⟨rfl, rfl⟩ := eb
        have p0 : wr.cell? ⟨b0, o0 + m * 2, none⟩ = some (.int .i64 xs[m].f) := (hbel.cell (p := ⟨b0, _, none⟩) hl0).trans (hcm 0 (by decide))
        have hw1 : IntKind.i64.wrap ((m : Int) + 1 - 1) = (m : Int) := by rw [Int.add_sub_cancel]; exact IntWalk.i64_in _ ⟨by omega, by omega⟩
        have hg1' : (0 : Int) < (m : Int) + 1 := by omega
        have hmW : IntKind.i64.wrap (m : Int) = (m : Int) := IntWalk.i64_in _ ⟨by omega, by omega⟩
        have hmA : (0 : Int) ≤ (m : Int) := by omega
        have hmB : (m : Int) < (n : Int) := by omega
        clear hc0 hcm hbm
        generalize xs[m + 1] = z at *
        generalize xs[m] = p at *
        rw [show ((m + 1 : Nat) : Int) = (m : Int) + 1 from rfl] at *
        obtain ⟨F, sx, cx⟩ := z
        obtain ⟨ax, kx, hsx, -⟩ := SX.out
        simp only at c0 c1 hsx hO
        subst hsx
        have cI := quietC (w := wr) (fun V hV => l1In_b F 0 3 V)
        have cS := quietC (w := wr) (fun V hV => l3ClaimsOk_c _ cx V (SX.out.below hV))
        have e0 := cell_regrown c0
        have e1 := cell_regrown c1
        have f0 := cell_regrown p0
        cases h1 : inB F 0 3 with
        | false =>
          have HX := Lib.hid (HNO.out (by rw [hO]; simp [voteOkB, h1]))
          rw [h1] at cI
          clear HYES HNO hO h1 c0 c1 p0
          go_wp2_with fail
          refine wp_region_quiet_below (by kernel_rfl) (by kernel_rfl) ?_
          repeat (go_big_quiet_step (first | with_reducible exact cI _ _ | with_reducible exact cS _ _))
          refine wpQuiet_nil ?_
          intro _ hw'
          obtain ⟨⟨dq, osq⟩, hw''⟩ := hw'
          subst hw''
          have KQ := below_next hbel (below_regrown wr dq osq)
          go_wp2_with fail
          go_ret
          exact ⟨ret_bool HX.out.symm, KQ⟩
        | true =>
          cases h2 : claimsOkB cx with
          | false =>
            have HX := Lib.hid (HNO.out (by rw [hO]; simp [voteOkB, h1, h2]))
            rw [h1] at cI
            rw [h2] at cS
            clear HYES HNO hO h1 c0 c1 p0 h2
            go_wp2_with fail
            refine wp_region_quiet_below (by kernel_rfl) (by kernel_rfl) ?_
            repeat (go_big_quiet_step (first | with_reducible exact cI _ _ | with_reducible exact cS _ _))
            refine wpQuiet_nil ?_
            intro _ hw'
            obtain ⟨⟨dq, osq⟩, hw''⟩ := hw'
            subst hw''
            have KQ := below_next hbel (below_regrown wr dq osq)
            go_wp2_with fail
            go_ret
            exact ⟨ret_bool HX.out.symm, KQ⟩
          | true =>
            by_cases hle : F ≤ p.f
            · skip
              have HX := Lib.hid (HNO.out (by rw [hO]; simp [voteOkB, h1, h2]; omega))
              rw [h1] at cI
              rw [h2] at cS
              have hd : decide (F ≤ p.f) = true := decide_eq_true hle
              clear HYES HNO hO h1 c0 c1 p0 h2
              go_wp2_with fail
              refine wp_region_quiet_below (by kernel_rfl) (by kernel_rfl) ?_
              repeat (go_big_quiet_step (first | with_reducible exact cI _ _ | with_reducible exact cS _ _))
              refine wpQuiet_nil ?_
              intro _ hw'
              obtain ⟨⟨dq, osq⟩, hw''⟩ := hw'
              subst hw''
              have KQ := below_next hbel (below_regrown wr dq osq)
              go_wp2_with fail
              go_ret
              exact ⟨ret_bool HX.out.symm, KQ⟩
            · skip
              have HX := Lib.hid (HYES.out (by rw [hO]; simp [voteOkB, h1, h2]; omega))
              rw [h1] at cI
              rw [h2] at cS
              have hd : decide (F ≤ p.f) = false := decide_eq_false hle
              clear HYES HNO hO h1 c0 c1 p0 h2
              go_wp2_with fail
              refine wp_region_quiet_below (by kernel_rfl) (by kernel_rfl) ?_
              repeat (go_big_quiet_step (first | with_reducible exact cI _ _ | with_reducible exact cS _ _))
              refine wpQuiet_nil ?_
              intro _ hw'
              obtain ⟨⟨dq, osq⟩, hw''⟩ := hw'
              subst hw''
              have KQ := below_next hbel (below_regrown wr dq osq)
              go_wp2_with fail
              refine ⟨⟨m + 1 + 1, by omega, by go_num, HX.out, KQ⟩, ?_⟩
              simp [intOf]; omega
    · have HX := Lib.hid (show votesOkB xs = true from all_yes fun j hj => AL.out j (by omega))
      go_wp2_with fail
      go_ret
      exact ⟨ret_bool HX.out.symm, hbel⟩

set_option maxRecDepth 100000 in
set_option maxHeartbeats 4000000 in
theorem l3Ok_c (va : Value) (m : Mg) (w : World) (ha : IsMg w va m) (hl1 : m.cl.length ≤ 1048576) (hl2 : m.vs.length ≤ 1048576) :
    Calls Try.prog 83 #[va] w fun e w' => ∃ b, e = .returned (.bool b) ∧ Below w.heap.size w w' := by
  have HM := Lib.hid ha
  obtain ⟨rfl, ⟨am, cm, em, -⟩, ⟨bm, dm, fm, -⟩, -⟩ := ha
  simp only [Mg.cs, em, fm] at HM ⊢
  have HC := Lib.hid (show IsSl w (.slice am m.cl.length cm) 7 Cl.cs m.cl from em ▸ HM.out.2.1)
  have HV := Lib.hid (show IsVs w (.slice bm m.vs.length dm) m.vs from fm ▸ HM.out.2.2)
  clear em fm
  generalize m.cl.length = nc at *
  generalize m.vs.length = nv at *
  have hsum : IntKind.i64.wrap ((nc : Int) + (nv : Int)) = (nc : Int) + (nv : Int) := IntWalk.i64_in _ ⟨by omega, by omega⟩
  go_enter Try.func83, Try.ntmps83
  go_upto_region 1 with fail
  obtain ⟨W, hW_, sW, x, kW⟩ := blocks1 w (.cells #[.int .i64 m.k, .int .i64 m.f, .int .i64 m.v, .int .i64 m.s, .int .i64 m.r.c, .int .i64 m.r.n, .int .i64 m.r.o, .int .i64 m.r.x, .int .i64 m.r.y, .slice am nc cm, .slice bm nv dm] 34)
  rw [← hW_]
  clear hW_
  have KK := kW
  replace HC := Lib.hid (HC.out.below kW)
  replace HV := Lib.hid (HV.out.below kW)
  clear sW kW
  have cx := cell_of_block x
  go_wp2_with (first
    | (go_at_call 42; refine (l1In_c _ _ _ _).mono ?_; rintro e w' ⟨rfl, rfl⟩)
    | (go_at_call 89; refine (l1Ok_c _ _ _ _ _ _).mono ?_; rintro e w' ⟨rfl, k'⟩; replace x := carryB k' (lt_of_block x) x; replace KK := below_next KK k'; replace HC := Lib.hid (HC.out.below k'); replace HV := Lib.hid (HV.out.below k'); clear k' cx; have cx := cell_of_block x)
    | (go_at_call 90; refine (l1None_c _ _ _ _ _ _).mono ?_; rintro e w' ⟨rfl, k'⟩; replace x := carryB k' (lt_of_block x) x; replace KK := below_next KK k'; replace HC := Lib.hid (HC.out.below k'); replace HV := Lib.hid (HV.out.below k'); clear k' cx; have cx := cell_of_block x)
    | (go_at_call 91; refine (l3ClaimsOk_c _ _ _ HC.out).mono ?_; rintro e w' ⟨rfl, k'⟩; replace x := carryB k' (lt_of_block x) x; replace KK := below_next KK k'; replace HC := Lib.hid (HC.out.below k'); replace HV := Lib.hid (HV.out.below k'); clear k' cx; have cx := cell_of_block x)
    | (go_at_call 92; refine (l3VotesOk_c _ _ _ HV.out).mono ?_; rintro e w' ⟨rfl, k'⟩; replace x := carryB k' (lt_of_block x) x; replace KK := below_next KK k'; replace HC := Lib.hid (HC.out.below k'); replace HV := Lib.hid (HV.out.below k'); clear k' cx; have cx := cell_of_block x))
  all_goals go_ret
  all_goals exact ⟨_, rfl, KK⟩
end Go.Proofs.Ytgdhieffjflejaa
