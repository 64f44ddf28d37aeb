/- eqWorld, markWorld, heldWorld at new worlds; condition: the worlds as new. -/
import Derived.Test.YtgdhieffjflejaaWorldNew
set_option linter.unusedSimpArgs false
set_option linter.unusedVariables false
namespace Go.Proofs.Ytgdhieffjflejaa
open Go.RowKit Go.Joins

set_option maxRecDepth 100000 in
set_option maxHeartbeats 1000000 in
theorem eqRepS_c (va vb : Value) (zs : List Rp) (w : World) (ha : IsSl w va 7 Rp.cs zs) (hb : IsSl w vb 7 Rp.cs zs) :
    Calls Try.prog 47 #[va, vb] w fun e w' => e = .returned (.bool true) ∧ Below w.heap.size w w' := by
  obtain ⟨a, cap, rfl, hlc, hm, hra⟩ := ha
  obtain ⟨b, cap', rfl, hlc', hm', hrb⟩ := hb
  have HA := Lib.hid hra
  have HB := Lib.hid hrb
  clear hra hrb
  unfold maxLen at hm hm'
  generalize hnn : zs.length = n at *
  go_enter Try.func47, Try.ntmps47
  go_wp2_with fail
  go_loopw [5] (fun i wr => ∃ k : Nat, k ≤ n ∧ i = .int .i64 k ∧ Below w.heap.size w wr) (fun i _ => n - (intOf i).toNat)
  case atStart => exact ⟨0, Nat.zero_le _, rfl, Below.refl _ _⟩
  case round =>
    obtain ⟨k, hk, rfl, hbel⟩ := hrel
    by_cases hlt : k < n
    · have hkz : k < zs.length := by omega
      have hk1 : (k : Int) < (n : Int) := by omega
      have hk0 : (0 : Int) ≤ (k : Int) := by omega
      obtain ⟨b0, o0, rfl, hl0, hc0⟩ := HA.out k hkz
      obtain ⟨b1, o1, rfl, hl1, hc1⟩ := HB.out k hkz
      have c0 : wr.cell? ⟨b0, o0 + k * 7, none⟩ = some (.int .i64 zs[k].me) := (hbel.cell (p := ⟨b0, _, none⟩) hl0).trans (hc0 0 (by decide))
      have c1 : wr.cell? ⟨b0, o0 + k * 7 + 1, none⟩ = some (.int .i64 zs[k].view) := (hbel.cell (p := ⟨b0, _, none⟩) hl0).trans (hc0 1 (by decide))
      have c2 : wr.cell? ⟨b0, o0 + k * 7 + 2, none⟩ = some (.bool zs[k].live) := (hbel.cell (p := ⟨b0, _, none⟩) hl0).trans (hc0 2 (by decide))
      have c3 : wr.cell? ⟨b0, o0 + k * 7 + 3, none⟩ = some (.int .i64 zs[k].nx) := (hbel.cell (p := ⟨b0, _, none⟩) hl0).trans (hc0 3 (by decide))
      have c4 : wr.cell? ⟨b0, o0 + k * 7 + 4, none⟩ = some (.slice none 0 0) := (hbel.cell (p := ⟨b0, _, none⟩) hl0).trans (hc0 4 (by decide))
      have c5 : wr.cell? ⟨b0, o0 + k * 7 + 5, none⟩ = some (.slice none 0 0) := (hbel.cell (p := ⟨b0, _, none⟩) hl0).trans (hc0 5 (by decide))
      have c6 : wr.cell? ⟨b0, o0 + k * 7 + 6, none⟩ = some (.slice none 0 0) := (hbel.cell (p := ⟨b0, _, none⟩) hl0).trans (hc0 6 (by decide))
      have d0 : wr.cell? ⟨b1, o1 + k * 7, none⟩ = some (.int .i64 zs[k].me) := (hbel.cell (p := ⟨b1, _, none⟩) hl1).trans (hc1 0 (by decide))
      have d1 : wr.cell? ⟨b1, o1 + k * 7 + 1, none⟩ = some (.int .i64 zs[k].view) := (hbel.cell (p := ⟨b1, _, none⟩) hl1).trans (hc1 1 (by decide))
      have d2 : wr.cell? ⟨b1, o1 + k * 7 + 2, none⟩ = some (.bool zs[k].live) := (hbel.cell (p := ⟨b1, _, none⟩) hl1).trans (hc1 2 (by decide))
      have d3 : wr.cell? ⟨b1, o1 + k * 7 + 3, none⟩ = some (.int .i64 zs[k].nx) := (hbel.cell (p := ⟨b1, _, none⟩) hl1).trans (hc1 3 (by decide))
      have d4 : wr.cell? ⟨b1, o1 + k * 7 + 4, none⟩ = some (.slice none 0 0) := (hbel.cell (p := ⟨b1, _, none⟩) hl1).trans (hc1 4 (by decide))
      have d5 : wr.cell? ⟨b1, o1 + k * 7 + 5, none⟩ = some (.slice none 0 0) := (hbel.cell (p := ⟨b1, _, none⟩) hl1).trans (hc1 5 (by decide))
      have d6 : wr.cell? ⟨b1, o1 + k * 7 + 6, none⟩ = some (.slice none 0 0) := (hbel.cell (p := ⟨b1, _, none⟩) hl1).trans (hc1 6 (by decide))
      clear hc0 hc1
      generalize zs[k] = z at *
      go_wp2_with fail
      go_region_with (go_at_call 70; refine (eqRep_c _ _ _ _ _).mono ?_; rintro e w1 ⟨rfl, k1⟩)
      all_goals
        have hbel1 := below_next hbel (below_next (Below.drew (Below.refl _ _)) k1)
        clear k1 hbel
        go_wp2_with fail
        refine ⟨⟨k + 1, by omega, by go_num, by first | exact hbel1 | exact hbel1.drew⟩, ?_⟩
        simp [intOf]; omega
    · go_wp2_with fail
      go_ret
      exact ⟨rfl, hbel⟩

set_option maxRecDepth 100000 in
set_option maxHeartbeats 1000000 in
theorem eqWorld_c (bad : Int) (a b : Option Addr) (n c d : Nat) (zs : List Rp) (w : World) (ha : IsSl w (.slice a n c) 7 Rp.cs zs) (hb : IsSl w (.slice b n d) 7 Rp.cs zs) :
    Calls Try.prog 20 #[.agg #[.int .i64 bad, .slice a n c, .slice none 0 0], .agg #[.int .i64 bad, .slice b n d, .slice none 0 0]] w fun e w' => e = .returned (.bool true) ∧ Below w.heap.size w w' := by
  have HA := Lib.hid ha
  have HB := Lib.hid hb
  clear ha hb
  go_enter Try.func20, Try.ntmps20
  go_wp2_with fail
  obtain ⟨W, hW, sW, aW, bW, kW⟩ := blocks2 w (.cells #[.int .i64 bad, .slice a n c, .slice none 0 0] 50) (.cells #[.int .i64 bad, .slice b n d, .slice none 0 0] 50)
  rw [← hW]
  clear hW
  refine (eqRepS_c _ _ zs W (HA.out.below kW) (HB.out.below kW)).mono ?_
  rintro e w1 ⟨rfl, k1⟩
  have K1 := below_next kW k1
  have a1 := carryB k1 (by omega) aW
  have b1 := carryB k1 (by omega) bW
  have ca := cell_of_block a1
  have cb := cell_of_block b1
  clear k1 kW
  go_wp2_with fail
  refine (eqMsgS_nil _).mono ?_
  rintro e w2 ⟨rfl, rfl⟩
  go_wp2_with fail
  go_ret
  exact ⟨rfl, K1⟩
end Go.Proofs.Ytgdhieffjflejaa
