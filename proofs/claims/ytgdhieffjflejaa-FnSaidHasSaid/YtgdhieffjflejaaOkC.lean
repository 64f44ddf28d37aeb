/- Claims that are ok, by the reference (l1None, l3Leader, l3ClaimOk, l3ClaimsOk); no condition. -/
import Derived.Test.YtgdhieffjflejaaSameV
set_option linter.unusedSimpArgs false
set_option linter.unusedVariables false
namespace Go.Proofs.Ytgdhieffjflejaa
open Go.RowKit Go.Joins

attribute [local go_sem ↓] eql_rq neq_rq

def noneB (c n o x y : Int) : Bool := eqR c n o x y 0 0 0 0 0
set_option maxHeartbeats 400000 in
theorem l1None_c (c n o x y : Int) (w : World) :
    Calls Try.prog 90 #[.agg #[.int .i64 c, .int .i64 n, .int .i64 o, .int .i64 x, .int .i64 y]] w fun e w' => e = .returned (.bool (noneB c n o x y)) ∧ Below w.heap.size w w' := by
  go_enter Try.func90, Try.ntmps90
  go_wp2
  go_ret
  exact ⟨rfl, (by repeat' (first | with_reducible exact Below.refl _ _ | with_reducible assumption | with_reducible refine Below.alloc ?_ ?_ _ | with_reducible refine Below.drew ?_ | with_reducible refine Below.setCell ?_ ?_ _ | omega | (simp; omega) | (simp; done)))⟩

/-- Who leads in a view. -/
def leadN (v : Int) : Int := v.tmod 4
theorem tmod4 (v : Int) : -4 < v.tmod 4 ∧ v.tmod 4 < 4 := by
  have h := Int.tmod_lt_of_pos v (show (0 : Int) < 4 by decide)
  have h2 := Int.lt_tmod_of_pos v (show (0 : Int) < 4 by decide)
  omega
theorem wrap_lead (v : Int) : IntKind.i64.wrap (v.tmod 4) = v.tmod 4 := by
  have := tmod4 v
  exact IntWalk.i64_in _ ⟨by omega, by omega⟩
set_option maxHeartbeats 400000 in
theorem l3Leader_c (v : Int) (w : World) :
    Calls Try.prog 101 #[.int .i64 v] w fun e w' => e = .returned (.int .i64 (leadN v)) ∧ Below w.heap.size w w' := by
  have h := wrap_lead v
  go_enter Try.func101, Try.ntmps101
  go_wp2
  go_ret
  exact ⟨by first | rfl | exact ret_int h | exact ret_int h.symm, (by repeat' (first | with_reducible exact Below.refl _ _ | with_reducible assumption | with_reducible refine Below.alloc ?_ ?_ _ | with_reducible refine Below.drew ?_ | with_reducible refine Below.setCell ?_ ?_ _ | omega | (simp; omega) | (simp; done)))⟩

/-- A claim that is ok. -/
def claimOkB (z : Cl) : Bool := inB z.s 1 5 && inB z.v 0 6 && (noneB z.r.c z.r.n z.r.o z.r.x z.r.y || okB z.r.c z.r.n z.r.o z.r.x z.r.y)
set_option maxRecDepth 100000 in
set_option maxHeartbeats 1000000 in
theorem l3ClaimOk_c (z : Cl) (w : World) :
    Calls Try.prog 100 #[.agg #[.int .i64 z.s, .int .i64 z.v, .int .i64 z.r.c, .int .i64 z.r.n, .int .i64 z.r.o, .int .i64 z.r.x, .int .i64 z.r.y]] w fun e w' => e = .returned (.bool (claimOkB z)) ∧ Below w.heap.size w w' := by
  cases h1 : inB z.s 1 5 with
  | false =>
    go_enter Try.func100, Try.ntmps100
    go_wp2_with fail
    obtain ⟨W, hW_, sW, x, kW⟩ := blocks1 w (.cells #[.int .i64 z.s, .int .i64 z.v, .int .i64 z.r.c, .int .i64 z.r.n, .int .i64 z.r.o, .int .i64 z.r.x, .int .i64 z.r.y] 62)
    rw [← hW_]
    clear hW_
    have KK := kW
    clear kW
    refine (l1In_c _ _ _ _).mono ?_
    rintro e w1 ⟨rfl, rfl⟩
    rw [h1]
    have cx := cell_of_block x
    have fx := unfrozen_of_block x
    have lx := lt_of_block x
    go_wp2_with fail
    go_ret
    exact ⟨ret_bool (by simp [claimOkB, h1]), KK⟩
  | true =>
    cases h2 : inB z.v 0 6 with
    | false =>
      go_enter Try.func100, Try.ntmps100
      go_wp2_with fail
      obtain ⟨W, hW_, sW, x, kW⟩ := blocks1 w (.cells #[.int .i64 z.s, .int .i64 z.v, .int .i64 z.r.c, .int .i64 z.r.n, .int .i64 z.r.o, .int .i64 z.r.x, .int .i64 z.r.y] 62)
      rw [← hW_]
      clear hW_
      have KK := kW
      clear kW
      refine (l1In_c _ _ _ _).mono ?_
      rintro e w1 ⟨rfl, rfl⟩
      rw [h1]
      have cx := cell_of_block x
      have fx := unfrozen_of_block x
      have lx := lt_of_block x
      go_wp2_with fail
      refine (l1In_c _ _ _ _).mono ?_
      rintro e w1 ⟨rfl, rfl⟩
      rw [h2]
      clear cx fx lx
      have cx := cell_of_block x
      have fx := unfrozen_of_block x
      have lx := lt_of_block x
      go_wp2_with fail
      go_ret
      exact ⟨ret_bool (by simp [claimOkB, h1, h2]), KK⟩
    | true =>
      cases h3 : noneB z.r.c z.r.n z.r.o z.r.x z.r.y with
      | true =>
        go_enter Try.func100, Try.ntmps100
        go_wp2_with fail
        obtain ⟨W, hW_, sW, x, kW⟩ := blocks1 w (.cells #[.int .i64 z.s, .int .i64 z.v, .int .i64 z.r.c, .int .i64 z.r.n, .int .i64 z.r.o, .int .i64 z.r.x, .int .i64 z.r.y] 62)
        rw [← hW_]
        clear hW_
        have KK := kW
        clear kW
        refine (l1In_c _ _ _ _).mono ?_
        rintro e w1 ⟨rfl, rfl⟩
        rw [h1]
        have cx := cell_of_block x
        have fx := unfrozen_of_block x
        have lx := lt_of_block x
        go_wp2_with fail
        refine (l1In_c _ _ _ _).mono ?_
        rintro e w1 ⟨rfl, rfl⟩
        rw [h2]
        clear cx fx lx
        have cx := cell_of_block x
        have fx := unfrozen_of_block x
        have lx := lt_of_block x
        go_wp2_with fail
        refine (l1None_c _ _ _ _ _ W).mono ?_
        rintro e w1 ⟨rfl, k1_⟩
        clear cx fx lx
        replace x := carryB k1_ (lt_of_block x) x
        replace KK := below_next KK k1_
        clear k1_
        rw [h3]
        have cx := cell_of_block x
        have fx := unfrozen_of_block x
        have lx := lt_of_block x
        go_wp2_with fail
        go_ret
        exact ⟨ret_bool (by simp [claimOkB, h1, h2, h3]), KK⟩
      | false =>
        go_enter Try.func100, Try.ntmps100
        go_wp2_with fail
        obtain ⟨W, hW_, sW, x, kW⟩ := blocks1 w (.cells #[.int .i64 z.s, .int .i64 z.v, .int .i64 z.r.c, .int .i64 z.r.n, .int .i64 z.r.o, .int .i64 z.r.x, .int .i64 z.r.y] 62)
        rw [← hW_]
        clear hW_
        have KK := kW
        clear kW
        refine (l1In_c _ _ _ _).mono ?_
        rintro e w1 ⟨rfl, rfl⟩
        rw [h1]
        have cx := cell_of_block x
        have fx := unfrozen_of_block x
        have lx := lt_of_block x
        go_wp2_with fail
        refine (l1In_c _ _ _ _).mono ?_
        rintro e w1 ⟨rfl, rfl⟩
        rw [h2]
        clear cx fx lx
        have cx := cell_of_block x
        have fx := unfrozen_of_block x
        have lx := lt_of_block x
        go_wp2_with fail
        refine (l1None_c _ _ _ _ _ W).mono ?_
        rintro e w1 ⟨rfl, k1_⟩
        clear cx fx lx
        replace x := carryB k1_ (lt_of_block x) x
        replace KK := below_next KK k1_
        clear k1_
        rw [h3]
        have cx := cell_of_block x
        have fx := unfrozen_of_block x
        have lx := lt_of_block x
        go_wp2_with fail
        refine (l1Ok_c _ _ _ _ _ w1).mono ?_
        rintro e w2 ⟨rfl, k2_⟩
        clear cx fx lx
        replace x := carryB k2_ (lt_of_block x) x
        replace KK := below_next KK k2_
        clear k2_
        have cx := cell_of_block x
        have fx := unfrozen_of_block x
        have lx := lt_of_block x
        go_wp2_with fail
        go_ret
        exact ⟨ret_bool (by simp [claimOkB, h1, h2, h3]), KK⟩

/-- The claim number k is ok where it stands. -/
def okAt (cl : List Cl) : Nat → Bool
  | 0 => match cl[0]? with
    | some z => claimOkB z
    | none => true
  | k + 1 => match cl[k + 1]?, cl[k]? with
    | some z, some p => claimOkB z && decide (p.s < z.s)
    | _, _ => true
def claimsOkB (cl : List Cl) : Bool := (List.range cl.length).all (okAt cl)
theorem all_yes {n : Nat} {p : Nat → Bool} (h : ∀ j, j < n → p j = true) : (List.range n).all p = true := by
  rw [List.all_eq_true]
  exact fun x hx => h x (List.mem_range.1 hx)
theorem all_no {n k : Nat} {p : Nat → Bool} (hk : k < n) (h : p k = false) : (List.range n).all p = false := by
  rw [List.all_eq_false]
  exact ⟨k, List.mem_range.2 hk, by rw [h]; simp⟩
theorem okAt_zero {cl : List Cl} (h : 0 < cl.length) : okAt cl 0 = claimOkB cl[0] := by simp [okAt, List.getElem?_eq_getElem h]
theorem okAt_succ {cl : List Cl} {m : Nat} (h : m + 1 < cl.length) : okAt cl (m + 1) = (claimOkB cl[m + 1] && decide ((cl[m]'(by omega)).s < cl[m + 1].s)) := by
  simp [okAt, List.getElem?_eq_getElem h, List.getElem?_eq_getElem (show m < cl.length by omega)]

set_option maxRecDepth 100000 in
set_option maxHeartbeats 2000000 in
theorem l3ClaimsOk_c (va : Value) (xs : List Cl) (w : World) (ha : IsSl w va 7 Cl.cs xs) :
    Calls Try.prog 91 #[va] w fun e w' => e = .returned (.bool (claimsOkB xs)) ∧ Below w.heap.size w w' := by
  obtain ⟨a, cap, rfl, hlc, hm, hra⟩ := ha
  have HA := Lib.hid hra
  clear hra
  unfold maxLen at hm
  generalize hnn : xs.length = n at *
  go_enter Try.func91, Try.ntmps91
  go_wp2_with fail
  go_loopw [3] (fun i wr => ∃ k : Nat, k ≤ n ∧ i = .int .i64 k ∧ (∀ j, j < k → okAt xs j = true) ∧ Below w.heap.size w wr) (fun i _ => n - (intOf i).toNat)
  case atStart => exact ⟨0, Nat.zero_le _, rfl, fun j hj => absurd hj (Nat.not_lt_zero j), Below.refl _ _⟩
  case round =>
    obtain ⟨k, hk, rfl, hal, hbel⟩ := hrel
    have AL := Lib.hid hal
    clear hal
    by_cases hlt : k < n
    · have hka : k < xs.length := by omega
      have hk1 : (k : Int) < (n : Int) := by omega
      have hk0 : (0 : Int) ≤ (k : Int) := by omega
      have hkW : IntKind.i64.wrap (k : Int) = (k : Int) := IntWalk.i64_in _ ⟨by omega, by omega⟩
      have HYES := Lib.hid (show okAt xs k = true → ∀ j, j < k + 1 → okAt xs j = true from fun h j hj => by
        by_cases hj' : j < k
        · exact AL.out j hj'
        · obtain rfl : j = k := by omega
          exact h)
      have HNO := Lib.hid (show okAt xs k = false → claimsOkB xs = false from fun h => all_no hka h)
      obtain ⟨b0, o0, rfl, hl0, hc0⟩ := HA.out k hka
      have c0 : wr.cell? ⟨b0, o0 + k * 7, none⟩ = some (.int .i64 xs[k].s) := (hbel.cell (p := ⟨b0, _, none⟩) hl0).trans (hc0 0 (by decide))
      have c1 : wr.cell? ⟨b0, o0 + k * 7 + 1, none⟩ = some (.int .i64 xs[k].v) := (hbel.cell (p := ⟨b0, _, none⟩) hl0).trans (hc0 1 (by decide))
      have c2 : wr.cell? ⟨b0, o0 + k * 7 + 2, none⟩ = some (.int .i64 xs[k].r.c) := (hbel.cell (p := ⟨b0, _, none⟩) hl0).trans (hc0 2 (by decide))
      have c3 : wr.cell? ⟨b0, o0 + k * 7 + 3, none⟩ = some (.int .i64 xs[k].r.n) := (hbel.cell (p := ⟨b0, _, none⟩) hl0).trans (hc0 3 (by decide))
      have c4 : wr.cell? ⟨b0, o0 + k * 7 + 4, none⟩ = some (.int .i64 xs[k].r.o) := (hbel.cell (p := ⟨b0, _, none⟩) hl0).trans (hc0 4 (by decide))
      have c5 : wr.cell? ⟨b0, o0 + k * 7 + 5, none⟩ = some (.int .i64 xs[k].r.x) := (hbel.cell (p := ⟨b0, _, none⟩) hl0).trans (hc0 5 (by decide))
      have c6 : wr.cell? ⟨b0, o0 + k * 7 + 6, none⟩ = some (.int .i64 xs[k].r.y) := (hbel.cell (p := ⟨b0, _, none⟩) hl0).trans (hc0 6 (by decide))
      cases k with
      | zero =>
        have hO := okAt_zero hka
        clear hc0
        simp only [Nat.zero_mul, Nat.add_zero] at c0 c1 c2 c3 c4 c5 c6
        generalize xs[0] = z at *
        have cS := quietC (w := wr) (fun V hV => l3ClaimOk_c z V)
        have e0 := cell_regrown c0
        have e1 := cell_regrown c1
        have e2 := cell_regrown c2
        have e3 := cell_regrown c3
        have e4 := cell_regrown c4
        have e5 := cell_regrown c5
        have e6 := cell_regrown c6
        have hz : ((0 : Nat) : Int) = 0 := rfl
        cases hb : claimOkB z with
        | true =>
          have HX := Lib.hid (HYES.out (by rw [hO, hb]))
          rw [hb] at cS
          clear HYES HNO hO hb c0 c1 c2 c3 c4 c5 c6
          go_wp2_with fail
          refine wp_region_quiet_below (by kernel_rfl) (by kernel_rfl) ?_
          repeat (go_big_quiet_step (with_reducible exact cS _ _))
          refine wpQuiet_nil ?_
          intro _ hw'
          obtain ⟨⟨dq, osq⟩, hw''⟩ := hw'
          subst hw''
          have KQ := below_next hbel (below_regrown wr dq osq)
          go_wp2_with fail
          refine ⟨⟨0 + 1, by omega, by go_num, HX.out, KQ⟩, ?_⟩
          simp [intOf]; omega
        | false =>
          have HX := Lib.hid (HNO.out (by rw [hO, hb]))
          rw [hb] at cS
          clear HYES HNO hO hb c0 c1 c2 c3 c4 c5 c6
          go_wp2_with fail
          refine wp_region_quiet_below (by kernel_rfl) (by kernel_rfl) ?_
          repeat (go_big_quiet_step (with_reducible exact cS _ _))
          refine wpQuiet_nil ?_
          intro _ hw'
          obtain ⟨⟨dq, osq⟩, hw''⟩ := hw'
          subst hw''
          have KQ := below_next hbel (below_regrown wr dq osq)
          go_wp2_with fail
          go_ret
          exact ⟨ret_bool HX.out.symm, KQ⟩
      | succ m =>
        have hO := okAt_succ hka
        have hmz : m < xs.length := by omega
        obtain ⟨b', o', eb, hbm, hcm⟩ := HA.out m hmz
        simp only [Option.some.injEq, Addr.mk.injEq, and_true] at eb
        obtain ⟨rfl, rfl⟩ := eb
        have p0 : wr.cell? ⟨b0, o0 + m * 7, none⟩ = some (.int .i64 xs[m].s) := (hbel.cell (p := ⟨b0, _, none⟩) hl0).trans (hcm 0 (by decide))
        have hw1 : IntKind.i64.wrap ((m : Int) + 1 - 1) = (m : Int) := by rw [Int.add_sub_cancel]; exact IntWalk.i64_in _ ⟨by omega, by omega⟩
        have hg1' : (0 : Int) < (m : Int) + 1 := by omega
        have hmW : IntKind.i64.wrap (m : Int) = (m : Int) := IntWalk.i64_in _ ⟨by omega, by omega⟩
        have hmA : (0 : Int) ≤ (m : Int) := by omega
        have hmB : (m : Int) < (n : Int) := by omega
        clear hc0 hcm hbm
        generalize xs[m + 1] = z at *
        generalize xs[m] = p at *
        rw [show ((m + 1 : Nat) : Int) = (m : Int) + 1 from rfl] at *
        have cS := quietC (w := wr) (fun V hV => l3ClaimOk_c z V)
        have e0 := cell_regrown c0
        have e1 := cell_regrown c1
        have e2 := cell_regrown c2
        have e3 := cell_regrown c3
        have e4 := cell_regrown c4
        have e5 := cell_regrown c5
        have e6 := cell_regrown c6
        have f0 := cell_regrown p0
        cases hb : claimOkB z with
        | false =>
          have HX := Lib.hid (HNO.out (by rw [hO, hb]; rfl))
          rw [hb] at cS
          clear HYES HNO hO hb c0 c1 c2 c3 c4 c5 c6 p0
          go_wp2_with fail
          refine wp_region_quiet_below (by kernel_rfl) (by kernel_rfl) ?_
          repeat (go_big_quiet_step (with_reducible exact cS _ _))
          refine wpQuiet_nil ?_
          intro _ hw'
          obtain ⟨⟨dq, osq⟩, hw''⟩ := hw'
          subst hw''
          have KQ := below_next hbel (below_regrown wr dq osq)
          go_wp2_with fail
          go_ret
          exact ⟨ret_bool HX.out.symm, KQ⟩
        | true =>
          by_cases hle : z.s ≤ p.s
          · have HX := Lib.hid (HNO.out (by rw [hO, hb]; simp; omega))
            have hd : decide (z.s ≤ p.s) = true := decide_eq_true hle
            rw [hb] at cS
            clear HYES HNO hO hb c0 c1 c2 c3 c4 c5 c6 p0
            go_wp2_with fail
            refine wp_region_quiet_below (by kernel_rfl) (by kernel_rfl) ?_
            repeat (go_big_quiet_step (with_reducible exact cS _ _))
            refine wpQuiet_nil ?_
            intro _ hw'
            obtain ⟨⟨dq, osq⟩, hw''⟩ := hw'
            subst hw''
            have KQ := below_next hbel (below_regrown wr dq osq)
            go_wp2_with fail
            go_ret
            exact ⟨ret_bool HX.out.symm, KQ⟩
          · have HX := Lib.hid (HYES.out (by rw [hO, hb]; simp; omega))
            have hd : decide (z.s ≤ p.s) = false := decide_eq_false hle
            rw [hb] at cS
            clear HYES HNO hO hb c0 c1 c2 c3 c4 c5 c6 p0
            go_wp2_with fail
            refine wp_region_quiet_below (by kernel_rfl) (by kernel_rfl) ?_
            repeat (go_big_quiet_step (with_reducible exact cS _ _))
            refine wpQuiet_nil ?_
            intro _ hw'
            obtain ⟨⟨dq, osq⟩, hw''⟩ := hw'
            subst hw''
            have KQ := below_next hbel (below_regrown wr dq osq)
            go_wp2_with fail
            refine ⟨⟨m + 1 + 1, by omega, by go_num, HX.out, KQ⟩, ?_⟩
            simp [intOf]; omega
    · have HX := Lib.hid (show claimsOkB xs = true from all_yes fun j hj => AL.out j (by omega))
      go_wp2_with fail
      go_ret
      exact ⟨ret_bool HX.out.symm, hbel⟩
end Go.Proofs.Ytgdhieffjflejaa
