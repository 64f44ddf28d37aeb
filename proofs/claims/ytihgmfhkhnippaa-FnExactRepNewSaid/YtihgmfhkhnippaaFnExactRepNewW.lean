/- The walk of FnExactRepNew; no condition. -/
import Derived.Test.YtihgmfhkhnippaaRep
namespace Go.Proofs.Ytihgmfhkhnippaa
open Go.RowKit Go.Joins

set_option maxHeartbeats 4000000 in
theorem fnExactRepNew.walk (v0 : Value) (n : Int) (w : World) (h0 : v0 = .int .i64 n) :
    Calls Try.prog 6 #[v0] w fun e w' => e = .returned (.bool true) ∧ Below w.heap.size w w' := by
  subst h0
  have CS := fun w => sRepNew_c n w
  have CI := fun w => RepNew_c n w
  unfold RepGot at CS CI
  generalize repMe n = me at CS CI
  generalize repLive n = lv at CS CI
  generalize repNext n = nx at CS CI
  replace CS := Lib.hid CS
  replace CI := Lib.hid CI
  go_enter Try.func6, Try.ntmps6
  go_wp2_with fail
  refine (CS.out _).mono ?_
  rintro e w1 ⟨rfl, k1⟩
  go_wp2_with fail
  obtain ⟨X, hX, sX, aX, kX⟩ := blocks1 w1 (.cells #[.int .i64 me, .int .i64 0, .bool lv, .int .i64 nx, .slice none 0 0, .slice none 0 0, .slice none 0 0] 49)
  rw [← hX]
  clear hX
  have K1 := below_next k1 kX
  refine (CI.out _).mono ?_
  rintro e w2 ⟨rfl, k2⟩
  have K2 := below_next K1 k2
  have aX2 := carryB k2 (lt_of_block aX) aX
  have cX2 := cell_of_block aX2
  have lX2 := lt_of_block aX2
  clear k1 kX K1 k2
  go_wp2_with fail
  obtain ⟨Y, hY, sY, aY, kY⟩ := blocks1 w2 (.cells #[.int .i64 me, .int .i64 0, .bool lv, .int .i64 nx, .slice none 0 0, .slice none 0 0, .slice none 0 0] 49)
  rw [← hY]
  clear hY
  have K3 := below_next K2 kY
  have aX3 := carryB kY lX2 aX2
  have lY := lt_of_block aY
  clear cX2 K2
  refine (eqRep_c me 0 nx lv Y).mono ?_
  rintro e w3 ⟨rfl, k3⟩
  have K4 := below_next K3 k3
  have aX4 := carryB k3 (lt_of_block aX3) aX3
  have aY4 := carryB k3 lY aY
  have cY4 := cell_of_block aY4
  have lY4 := lt_of_block aY4
  clear k3 K3 kY
  go_wp2_with fail
  refine (markRep_c me 0 nx 1 lv w3).mono ?_
  rintro e w4 ⟨rfl, k4⟩
  have K5 := below_next K4 k4
  have aX5 := carryB k4 (lt_of_block aX4) aX4
  have aY5 := carryB k4 lY4 aY4
  have cY5 := cell_of_block aY5
  have lY5 := lt_of_block aY5
  clear k4 K4 cY4
  go_wp2_with fail
  refine (heldRep_c me 0 nx lv w4).mono ?_
  rintro e w5 ⟨rfl, k5⟩
  have K6 := below_next K5 k5
  have aX6 := carryB k5 (lt_of_block aX5) aX5
  have aY6 := carryB k5 lY5 aY5
  clear k5 K5 cY5
  go_wp2_with fail
  refine (CI.out _).mono ?_
  rintro e w6 ⟨rfl, k6⟩
  have K7 := below_next K6 k6
  have aX7 := carryB k6 (lt_of_block aX6) aX6
  have aY7 := carryB k6 (lt_of_block aY6) aY6
  have cX7 := cell_of_block aX7
  have lX7 := lt_of_block aX7
  clear k6 K6
  go_wp2_with fail
  obtain ⟨Z, hZ, sZ, aZ, kZ⟩ := blocks1 w6 (.cells #[.int .i64 me, .int .i64 0, .bool lv, .int .i64 nx, .slice none 0 0, .slice none 0 0, .slice none 0 0] 49)
  rw [← hZ]
  clear hZ
  have K8 := below_next K7 kZ
  have aY8 := carryB kZ (lt_of_block aY7) aY7
  clear cX7 K7
  refine (eqRep_c me 0 nx lv Z).mono ?_
  rintro e w7 ⟨rfl, k7⟩
  have K9 := below_next K8 k7
  have aY9 := carryB k7 (lt_of_block aY8) aY8
  have cY9 := cell_of_block aY9
  have lY9 := lt_of_block aY9
  clear k7 K8 kZ
  go_wp2_with fail
  refine (heldRep_c me 0 nx lv w7).mono ?_
  rintro e w8 ⟨rfl, k8⟩
  have KA := below_next K9 k8
  clear k8 K9 cY9
  go_wp2_with fail
  go_ret
  exact ⟨rfl, KA⟩
end Go.Proofs.Ytihgmfhkhnippaa
