/- Contracts of markGame and heldGame at a game without figures; the walk of FnExactGameNew; no condition. -/
import Derived.Test.YtoiacbdnbbnebaaMark
import Derived.Test.YtoiacbdnbbnebaaGameNew
namespace Go.Proofs.Ytoiacbdnbbnebaa
open Go.RowKit Go.Joins

set_option maxHeartbeats 1000000 in
theorem markEntS_nil (m : Int) (w : World) : Calls Try.prog 65 #[.slice none 0 0, .int .i64 m] w fun e w' => e = .returned (.int .i64 m) ∧ w = w' := by
  go_enter Try.func65, Try.ntmps65
  go_wp2_with fail
  refine wp_loop_rounds 1 ?_
  rw [rounds_succ]
  go_wp2_with fail
  go_ret
  exact ⟨rfl, rfl⟩
set_option maxHeartbeats 1000000 in
theorem heldEntS_nil (m : Int) (w : World) : Calls Try.prog 67 #[.slice none 0 0, .int .i64 m] w fun e w' => e = .returned (.int .i64 m) ∧ w = w' := by
  go_enter Try.func67, Try.ntmps67
  go_wp2_with fail
  refine wp_loop_rounds 1 ?_
  rw [rounds_succ]
  go_wp2_with fail
  go_ret
  exact ⟨rfl, rfl⟩

/-- Marked from 1 on: the floor, the last asks; nothing else has turned. -/
structure MarkedG (f l : Nat) (w w' : World) : Prop where
  floor : ∀ j, j < 16 → w'.cell? ⟨f, j, none⟩ = some (.int .i64 (1 + j))
  last : ∀ j, j < 4 → w'.cell? ⟨l, j, none⟩ = some (.int .i64 (17 + j))
  others : ∀ b, b < w.heap.size → b ≠ f → b ≠ l → w'.heap[b]? = w.heap[b]?
  size : w.heap.size ≤ w'.heap.size
  below : ∀ B, B ≤ f → B ≤ l → B ≤ w.heap.size → Below B w w'

set_option maxHeartbeats 2000000 in
theorem markGame_c (f l : Nat) (w : World) (cf cl : Array Value) (t : TypeId) (hfl : f ≠ l) (hF : w.heap[f]? = some (.cells cf t (0, 0))) (hL : w.heap[l]? = some (.cells cl t (0, 0))) (sF : cf.size = 16) (sL : cl.size = 4) :
    Calls Try.prog 30 #[.agg #[.slice none 0 0, .slice (some ⟨f, 0, none⟩) 16 16, .slice (some ⟨l, 0, none⟩) 4 4], .int .i64 1] w fun e w' => e = .returned (.int .i64 21) ∧ MarkedG f l w w' := by
  have lf := lt_of_block hF
  have ll := lt_of_block hL
  have HF := Lib.hid hF
  have HL := Lib.hid hL
  have SF := Lib.hid sF
  have SL := Lib.hid sL
  clear hF hL sF sL
  go_enter Try.func30, Try.ntmps30
  go_wp2_with fail
  obtain ⟨W, hW, sW, aW, kW⟩ := blocks1 w (.cells #[.slice none 0 0, .slice (some ⟨f, 0, none⟩) 16 16, .slice (some ⟨l, 0, none⟩) 4 4] 45)
  rw [← hW]
  clear hW
  have hcW := cell_of_block aW
  refine (markEntS_nil 1 _).mono ?_
  rintro e w' ⟨rfl, rfl⟩
  go_wp2_with fail
  have bF := carryB kW lf HF.out
  have bL := carryB kW ll HL.out
  refine (markIntS_c f 16 16 1 _ (by omega) (by omega) (by omega) (by omega) (fun j hj => ⟨_, (cell_of_block bF j).trans (Array.getElem?_eq_getElem (by rw [SF.out]; exact hj))⟩) (fun j _ => unfrozen_of_block bF j)).mono ?_
  rintro e w1 ⟨rfl, m1, o1⟩
  have M1 := Lib.hid m1
  have a1 := (o1.others _ (by omega)).trans aW
  have bL1 := (o1.others _ (by omega)).trans bL
  have hc1 := cell_of_block a1
  clear m1 hcW
  go_wp2_with fail
  refine (markIntS_c l 4 4 17 _ (by omega) (by omega) (by omega) (by omega) (fun j hj => ⟨_, (cell_of_block bL1 j).trans (Array.getElem?_eq_getElem (by rw [SL.out]; exact hj))⟩) (fun j _ => unfrozen_of_block bL1 j)).mono ?_
  rintro e w2 ⟨rfl, m2, o2⟩
  have M2 := Lib.hid m2
  have O1 := Lib.hid o1
  have O2 := Lib.hid o2
  clear m2 hc1 o1 o2
  go_wp2_with fail
  go_ret
  refine ⟨rfl, fun j hj => ?_, fun j hj => M2.out j hj, fun b hb h1 h2 => ?_, ?_, fun B b1 b2 b3 => ((kW.mono b3).trans (O1.out.below.mono b1)).trans (O2.out.below.mono b2)⟩
  · have h := O2.out.others f hfl
    have e : w2.cell? ⟨f, j, none⟩ = w1.cell? ⟨f, j, none⟩ := by simp [World.cell?, h]
    rw [e]; exact M1.out j hj
  · rw [O2.out.others b h2, O1.out.others b h1, kW.block b hb]
  · rw [O2.out.size, O1.out.size, sW]; omega

set_option maxHeartbeats 2000000 in
theorem heldGame_c (f l : Nat) (w : World) (lf : f < w.heap.size) (ll : l < w.heap.size) (hF : ∀ j, j < 16 → w.cell? ⟨f, j, none⟩ = some (.int .i64 (1 + j))) (hL : ∀ j, j < 4 → w.cell? ⟨l, j, none⟩ = some (.int .i64 (17 + j))) :
    Calls Try.prog 31 #[.agg #[.slice none 0 0, .slice (some ⟨f, 0, none⟩) 16 16, .slice (some ⟨l, 0, none⟩) 4 4], .int .i64 1] w fun e w' => e = .returned (.int .i64 21) ∧ Below w.heap.size w w' := by
  have HF := Lib.hid hF
  have HL := Lib.hid hL
  clear hF hL
  go_enter Try.func31, Try.ntmps31
  go_wp2_with fail
  obtain ⟨W, hW, sW, aW, kW⟩ := blocks1 w (.cells #[.slice none 0 0, .slice (some ⟨f, 0, none⟩) 16 16, .slice (some ⟨l, 0, none⟩) 4 4] 45)
  rw [← hW]
  clear hW
  have hcW := cell_of_block aW
  refine (heldEntS_nil 1 _).mono ?_
  rintro e w' ⟨rfl, rfl⟩
  go_wp2_with fail
  refine (heldIntS_c f 16 16 1 _ (by omega) (by omega) (by omega) (by omega) (fun j hj => (kW.cell (p := ⟨f, j, none⟩) lf).trans (HF.out j hj))).mono ?_
  rintro e w' ⟨rfl, rfl⟩
  go_wp2_with fail
  refine (heldIntS_c l 4 4 17 _ (by omega) (by omega) (by omega) (by omega) (fun j hj => (kW.cell (p := ⟨l, j, none⟩) ll).trans (HL.out j hj))).mono ?_
  rintro e w' ⟨rfl, rfl⟩
  go_wp2_with fail
  go_ret
  exact ⟨rfl, kW⟩

def floorL : List Int := [2, 1, 1, 1, 1, 2, 1, 1, 1, 1, 2, 1, 1, 1, 1, 2]
theorem floor20 : floorAt 20 = floorL := by decide

theorem eqNew_c (f l f' l' : Nat) (w : World) (hf : w.heap[f]? = some (.cells (flat intR (floorAt 20)) 3 (0, 0))) (hl : w.heap[l]? = some (.cells (flat intR (List.replicate 4 0)) 3 (0, 0)))
    (hf' : w.heap[f']? = some (.cells (flat intR (floorAt 20)) 3 (0, 0))) (hl' : w.heap[l']? = some (.cells (flat intR (List.replicate 4 0)) 3 (0, 0))) :
    Calls Try.prog 29 #[.agg #[.slice none 0 0, .slice (some ⟨f, 0, none⟩) 16 16, .slice (some ⟨l, 0, none⟩) 4 4], .agg #[.slice none 0 0, .slice (some ⟨f', 0, none⟩) 16 16, .slice (some ⟨l', 0, none⟩) 4 4]] w (Yes w) := by
  rw [floor20] at hf hf'
  have hn : IsSl w (.slice none 0 0) 5 Rq.cs [] := ⟨none, 0, rfl, Nat.le_refl _, by simp [maxLen], fun i hi => absurd hi (Nat.not_lt_zero i)⟩
  exact eqGame_c ⟨[], floorL, List.replicate 4 0⟩ none (some ⟨f, 0, none⟩) (some ⟨l, 0, none⟩) none (some ⟨f', 0, none⟩) (some ⟨l', 0, none⟩) 0 16 4 0 16 4 w hn (sl_of_block int_len hf rfl (by decide)) (sl_of_block int_len hl rfl (by decide)) hn (sl_of_block int_len hf' rfl (by decide)) (sl_of_block int_len hl' rfl (by decide))

theorem flat_floor_size : (flat intR (floorAt 20)).size = 16 := by rw [flat_size int_len, floorAt_len]
theorem flat_four_size : (flat intR (List.replicate 4 0)).size = 4 := by rw [flat_size int_len, List.length_replicate]

set_option maxRecDepth 100000 in
set_option maxHeartbeats 4000000 in
theorem fnExactGameNew.walk (w : World) :
    Calls Try.prog 11 #[] w fun e w' => e = .returned (.bool true) ∧ Below w.heap.size w w' := by
  go_enter Try.func11, Try.ntmps11
  go_wp2_with fail
  refine (sGameNew_c _).mono ?_
  rintro e w1 ⟨f0, l0, rfl, hf0, hl0, ne0, gf0, gl0, k1⟩
  have F0 := Lib.hid hf0
  have L0 := Lib.hid hl0
  have lf0 := lt_of_block hf0
  have ll0 := lt_of_block hl0
  clear hf0 hl0
  go_wp2_with fail
  obtain ⟨X, hX, sX, aX, kX⟩ := blocks1 w1 (.cells #[.slice none 0 0, .slice (some ⟨f0, 0, none⟩) 16 16, .slice (some ⟨l0, 0, none⟩) 4 4] 45)
  rw [← hX]
  clear hX
  have KX := below_next k1 kX
  refine (GameNew_c _).mono ?_
  rintro e w2 ⟨f1, l1, rfl, hf1, hl1, ne1, gf1, gl1, k2⟩
  have F1 := Lib.hid hf1
  have L1 := Lib.hid hl1
  have lf1 := lt_of_block hf1
  have ll1 := lt_of_block hl1
  have K2 := below_next KX k2
  have a2 := carryB k2 (by omega) aX
  have F02 := Lib.hid (carryB k2 (by omega) (carryB kX lf0 F0.out))
  have L02 := Lib.hid (carryB k2 (by omega) (carryB kX ll0 L0.out))
  have s2 := k2.size
  have hc2 := cell_of_block a2
  have lx := lt_of_block a2
  clear hf1 hl1 aX F0 L0 k2 kX k1 KX
  go_wp2_with fail
  obtain ⟨Y, hY, sY, aY, kY⟩ := blocks1 w2 (.cells #[.slice none 0 0, .slice (some ⟨f1, 0, none⟩) 16 16, .slice (some ⟨l1, 0, none⟩) 4 4] 45)
  rw [← hY]
  clear hY
  have KY := below_next K2 kY
  have a3 := carryB kY (by omega) a2
  have F03 := Lib.hid (carryB kY (by omega) F02.out)
  have L03 := Lib.hid (carryB kY (by omega) L02.out)
  have F13 := Lib.hid (carryB kY lf1 F1.out)
  have L13 := Lib.hid (carryB kY ll1 L1.out)
  have hc3 := cell_of_block a3
  have hcY := cell_of_block aY
  clear F02 L02 F1 L1 a2 kY K2 hc2
  refine (eqNew_c f1 l1 f0 l0 _ F13.out L13.out F03.out L03.out).mono ?_
  rintro e w3 ⟨rfl, k3⟩
  have K3 := below_next KY k3
  have s3 := k3.size
  have a4 := carryB k3 (by omega) a3
  have y4 := carryB k3 (by omega) aY
  have F04 := Lib.hid (carryB k3 (by omega) F03.out)
  have L04 := Lib.hid (carryB k3 (by omega) L03.out)
  have F14 := Lib.hid (carryB k3 (by omega) F13.out)
  have L14 := Lib.hid (carryB k3 (by omega) L13.out)
  clear F03 L03 F13 L13 a3 aY hc3 hcY k3 KY
  have hc4 := cell_of_block a4
  have hy4 := cell_of_block y4
  go_wp2_with fail
  refine (markGame_c f1 l1 _ _ _ _ ne1 F14.out L14.out flat_floor_size flat_four_size).mono ?_
  rintro e w4 ⟨rfl, m4⟩
  have s4 := m4.size
  have a5 := (m4.others _ (by omega) (by omega) (by omega)).trans a4
  have y5 := (m4.others _ (by omega) (by omega) (by omega)).trans y4
  have F05 := Lib.hid ((m4.others _ (by omega) (by omega) (by omega)).trans F04.out)
  have L05 := Lib.hid ((m4.others _ (by omega) (by omega) (by omega)).trans L04.out)
  have M4 := Lib.hid m4
  have K4 : Below w.heap.size w w4 := K3.trans (m4.below _ (by omega) (by omega) K3.size)
  clear m4 a4 y4 hc4 hy4 F04 L04 F14 L14 K3
  have hc5 := cell_of_block a5
  have hy5 := cell_of_block y5
  go_wp2_with fail
  refine (heldGame_c f1 l1 _ (by omega) (by omega) M4.out.floor M4.out.last).mono ?_
  rintro e w5 ⟨rfl, k5⟩
  have K5 := below_next K4 k5
  have s5 := k5.size
  have a6 := carryB k5 (by omega) a5
  have y6 := carryB k5 (by omega) y5
  have F06 := Lib.hid (carryB k5 (by omega) F05.out)
  have L06 := Lib.hid (carryB k5 (by omega) L05.out)
  have M51 := Lib.hid (fun j (hj : j < 16) => (k5.cell (p := ⟨f1, j, none⟩) (by show f1 < _; omega)).trans (M4.out.floor j hj))
  have M52 := Lib.hid (fun j (hj : j < 4) => (k5.cell (p := ⟨l1, j, none⟩) (by show l1 < _; omega)).trans (M4.out.last j hj))
  clear k5 a5 y5 hc5 hy5 F05 L05 M4 K4
  go_wp2_with fail
  refine (GameNew_c _).mono ?_
  rintro e w6 ⟨f2, l2, rfl, hf2, hl2, ne2, gf2, gl2, k6⟩
  have F2 := Lib.hid hf2
  have L2 := Lib.hid hl2
  have lf2 := lt_of_block hf2
  have ll2 := lt_of_block hl2
  have K6 := below_next K5 k6
  have s6 := k6.size
  have a7 := carryB k6 (by omega) a6
  have y7 := carryB k6 (by omega) y6
  have F07 := Lib.hid (carryB k6 (by omega) F06.out)
  have L07 := Lib.hid (carryB k6 (by omega) L06.out)
  have M71 := Lib.hid (fun j (hj : j < 16) => (k6.cell (p := ⟨f1, j, none⟩) (by show f1 < _; omega)).trans (M51.out j hj))
  have M72 := Lib.hid (fun j (hj : j < 4) => (k6.cell (p := ⟨l1, j, none⟩) (by show l1 < _; omega)).trans (M52.out j hj))
  have hc7 := cell_of_block a7
  have lx7 := lt_of_block a7
  clear hf2 hl2 k6 a6 y6 F06 L06 M51 M52 K5
  go_wp2_with fail
  obtain ⟨Z, hZ, sZ, aZ, kZ⟩ := blocks1 w6 (.cells #[.slice none 0 0, .slice (some ⟨f2, 0, none⟩) 16 16, .slice (some ⟨l2, 0, none⟩) 4 4] 45)
  rw [← hZ]
  clear hZ
  have KZ := below_next K6 kZ
  have y8 := carryB kZ (by omega) y7
  have F08 := Lib.hid (carryB kZ (by omega) F07.out)
  have L08 := Lib.hid (carryB kZ (by omega) L07.out)
  have F28 := Lib.hid (carryB kZ lf2 F2.out)
  have L28 := Lib.hid (carryB kZ ll2 L2.out)
  have M81 := Lib.hid (fun j (hj : j < 16) => (kZ.cell (p := ⟨f1, j, none⟩) (by show f1 < _; omega)).trans (M71.out j hj))
  have M82 := Lib.hid (fun j (hj : j < 4) => (kZ.cell (p := ⟨l1, j, none⟩) (by show l1 < _; omega)).trans (M72.out j hj))
  clear kZ y7 F07 L07 F2 L2 M71 M72 K6 hc7 a7
  refine (eqNew_c f2 l2 f0 l0 _ F28.out L28.out F08.out L08.out).mono ?_
  rintro e w9 ⟨rfl, k9⟩
  have K9 := below_next KZ k9
  have s9 := k9.size
  have y9 := carryB k9 (by omega) y8
  have M91 := Lib.hid (fun j (hj : j < 16) => (k9.cell (p := ⟨f1, j, none⟩) (by show f1 < _; omega)).trans (M81.out j hj))
  have M92 := Lib.hid (fun j (hj : j < 4) => (k9.cell (p := ⟨l1, j, none⟩) (by show l1 < _; omega)).trans (M82.out j hj))
  have hy9 := cell_of_block y9
  clear k9 y8 F08 L08 F28 L28 M81 M82 KZ
  go_wp2_with fail
  refine (heldGame_c f1 l1 _ (by omega) (by omega) M91.out M92.out).mono ?_
  rintro e w10 ⟨rfl, k10⟩
  have K10 := below_next K9 k10
  clear k10 K9 y9 hy9
  go_wp2_with fail
  go_ret
  exact ⟨rfl, K10⟩
end Go.Proofs.Ytoiacbdnbbnebaa
