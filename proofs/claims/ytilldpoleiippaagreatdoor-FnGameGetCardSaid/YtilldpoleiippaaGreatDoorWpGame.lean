/- Contracts of wpInts, wpReqs, wpGame, wpAhead: two that are alike are found alike; no condition. -/
import Derived.Test.YtilldpoleiippaaGreatDoorMA
import Derived.Test.YtilldpoleiippaaGreatDoorMarkA
set_option linter.unusedSimpArgs false
set_option linter.unusedVariables false
namespace Go.Proofs.YtilldpoleiippaaGreatDoor
open Go.RowKit Go.Joins

theorem neq_et (w : World) (c n o x y c' n' o' x' y' : Int) : (binOp .neq 44 (.agg #[.int .i64 c, .int .i64 n, .int .i64 o, .int .i64 x, .int .i64 y]) (.agg #[.int .i64 c', .int .i64 n', .int .i64 o', .int .i64 x', .int .i64 y'])).run Tryz.prog w = .ok (.bool (!eqR c n o x y c' n' o' x' y')) w := by
  go_simp
  by_cases h1 : c = c' <;> by_cases h2 : n = n' <;> by_cases h3 : o = o' <;> by_cases h4 : x = x' <;> by_cases h5 : y = y' <;> simp [eqR, h1, h2, h3, h4, h5]
attribute [local go_sem ↓] neq_rq neq_et

set_option maxHeartbeats 1000000 in
theorem wpInts_c (va vb : Value) (zs : List Int) (w : World) (ha : IsSl w va 1 intR zs) (hb : IsSl w vb 1 intR zs) :
    Calls Tryz.prog 23 #[va, vb] w (Yes w) := by
  obtain ⟨a, cap, rfl, hlc, hm, hra⟩ := ha
  obtain ⟨b, cap', rfl, hlc', hm', hrb⟩ := hb
  have HA := Lib.hid hra
  have HB := Lib.hid hrb
  clear hra hrb
  unfold maxLen at hm hm'
  generalize hnn : zs.length = n at *
  go_enter Tryz.func23, Tryz.ntmps23
  go_wp2_with fail
  go_loopw [5] (fun i wr => ∃ k : Nat, k ≤ n ∧ i = .int .i64 k ∧ Below w.heap.size w wr) (fun i _ => n - (intOf i).toNat)
  case atStart => exact ⟨0, Nat.zero_le _, rfl, Below.refl _ _⟩
  case round =>
    obtain ⟨k, hk, rfl, hbel⟩ := hrel
    by_cases hlt : k < n
    · have hkz : k < zs.length := by omega
      have hk1 : (k : Int) < (n : Int) := by omega
      have hk0 : (0 : Int) ≤ (k : Int) := by omega
      obtain ⟨b0, o0, rfl, hl0, hc0⟩ := HA.out k hkz
      obtain ⟨b1, o1, rfl, hl1, hc1⟩ := HB.out k hkz
      have c0 : wr.cell? ⟨b0, o0 + k, none⟩ = some (.int .i64 zs[k]) := by
        have h := (hbel.cell (p := ⟨b0, _, none⟩) hl0).trans (hc0 0 (by decide))
        rwa [Nat.mul_one, Nat.add_zero] at h
      have d0 : wr.cell? ⟨b1, o1 + k, none⟩ = some (.int .i64 zs[k]) := by
        have h := (hbel.cell (p := ⟨b1, _, none⟩) hl1).trans (hc1 0 (by decide))
        rwa [Nat.mul_one, Nat.add_zero] at h
      clear hc0 hc1
      generalize zs[k] = z at *
      go_wp2_with fail
      go_region_with fail
      all_goals
        have hbel1 := Below.drew hbel
        clear hbel
        go_wp2_with fail
        refine ⟨⟨k + 1, by omega, by go_num, hbel1⟩, ?_⟩
        simp [intOf]; omega
    · go_wp2_with fail
      go_ret
      exact ⟨rfl, hbel⟩

set_option maxRecDepth 100000 in
set_option maxHeartbeats 8000000 in
theorem wpGame_c (z : Gm) (a0 a1 a2 b0 b1 b2 : Option Addr) (n m l : Nat) (c0 c1 c2 d0 d1 d2 : Nat) (w : World) (ha0 : IsSl w (.slice a0 n c0) 5 Rq.cs z.es) (ha1 : IsSl w (.slice a1 m c1) 1 intR z.fl) (ha2 : IsSl w (.slice a2 l c2) 1 intR z.la)
    (hb0 : IsSl w (.slice b0 n d0) 5 Rq.cs z.es) (hb1 : IsSl w (.slice b1 m d1) 1 intR z.fl) (hb2 : IsSl w (.slice b2 l d2) 1 intR z.la) :
    Calls Tryz.prog 7 #[.agg #[.slice a0 n c0, .slice a1 m c1, .slice a2 l c2], .agg #[.slice b0 n d0, .slice b1 m d1, .slice b2 l d2]] w (Yes w) := by
  have A1 := Lib.hid ha1
  have B1 := Lib.hid hb1
  have A2 := Lib.hid ha2
  have B2 := Lib.hid hb2
  obtain ⟨a, cap, he, hlc, hm, hra⟩ := ha0
  obtain ⟨b, cap', he', hlc', hm', hrb⟩ := hb0
  injection he with h1 h2 h3
  injection he' with h4 h5 h6
  subst h1 h3 h4 h6
  clear ha1 hb1 ha2 hb2 h5
  have HA := Lib.hid hra
  have HB := Lib.hid hrb
  clear hra hrb
  unfold maxLen at hm hm'
  obtain ⟨es, fl, la⟩ := z
  simp only at h2 HA HB A1 A2 B1 B2 hlc hlc'
  obtain ⟨zs, hzs⟩ : ∃ zs, zs = es := ⟨_, rfl⟩
  rw [← hzs] at h2 HA HB hlc hlc'
  clear hzs
  have HN := Lib.hid h2
  have hnc : n ≤ 9223372036854775807 := by omega
  clear h2 hlc hlc' hm hm'
  go_enter Tryz.func7, Tryz.ntmps7
  go_wp2_with fail
  obtain ⟨W, hW, sW, aW, bW, kW⟩ := blocks2 w (.cells #[.slice a0 n c0, .slice a1 m c1, .slice a2 l c2] 27) (.cells #[.slice b0 n d0, .slice b1 m d1, .slice b2 l d2] 27)
  rw [← hW]
  clear hW
  have HAW := Lib.hid aW
  have HBW := Lib.hid bW
  have KW := Lib.hid kW
  clear sW kW
  have cA := cell_of_block aW
  have lA := lt_of_block aW
  have cB := cell_of_block bW
  have lB := lt_of_block bW
  clear aW bW
  go_wp2_with fail
  clear cA cB lA lB
  go_loopw [5] (fun i wr => ∃ k : Nat, k ≤ n ∧ i = .int .i64 k ∧ Below W.heap.size W wr) (fun i _ => n - (intOf i).toNat)
  case atStart => exact ⟨0, Nat.zero_le _, rfl, Below.refl _ _⟩
  case round =>
    obtain ⟨k, hk, rfl, hbelW⟩ := hrel
    have hAr := carryN hbelW HAW.out
    have hBr := carryN hbelW HBW.out
    have hbel := below_next KW.out hbelW
    have KR := Lib.hid hbelW
    have cA := cell_of_block hAr
    have lA := lt_of_block hAr
    have cB := cell_of_block hBr
    have lB := lt_of_block hBr
    clear hAr hBr hbelW
    by_cases hlt : k < n
    · have hkz : k < zs.length := by have := HN.out; omega
      have hk1 : (k : Int) < (n : Int) := by omega
      have hk0 : (0 : Int) ≤ (k : Int) := by omega
      obtain ⟨b0, o0, rfl, hl0, hc0⟩ := HA.out k hkz
      obtain ⟨b1, o1, rfl, hl1, hc1⟩ := HB.out k hkz
      have c0 : wr.cell? ⟨b0, o0 + k * 5, none⟩ = some (.int .i64 zs[k].c) := (hbel.cell (p := ⟨b0, _, none⟩) hl0).trans (hc0 0 (by decide))
      have c1 : wr.cell? ⟨b0, o0 + k * 5 + 1, none⟩ = some (.int .i64 zs[k].n) := (hbel.cell (p := ⟨b0, _, none⟩) hl0).trans (hc0 1 (by decide))
      have c2 : wr.cell? ⟨b0, o0 + k * 5 + 2, none⟩ = some (.int .i64 zs[k].o) := (hbel.cell (p := ⟨b0, _, none⟩) hl0).trans (hc0 2 (by decide))
      have c3 : wr.cell? ⟨b0, o0 + k * 5 + 3, none⟩ = some (.int .i64 zs[k].x) := (hbel.cell (p := ⟨b0, _, none⟩) hl0).trans (hc0 3 (by decide))
      have c4 : wr.cell? ⟨b0, o0 + k * 5 + 4, none⟩ = some (.int .i64 zs[k].y) := (hbel.cell (p := ⟨b0, _, none⟩) hl0).trans (hc0 4 (by decide))
      have d0 : wr.cell? ⟨b1, o1 + k * 5, none⟩ = some (.int .i64 zs[k].c) := (hbel.cell (p := ⟨b1, _, none⟩) hl1).trans (hc1 0 (by decide))
      have d1 : wr.cell? ⟨b1, o1 + k * 5 + 1, none⟩ = some (.int .i64 zs[k].n) := (hbel.cell (p := ⟨b1, _, none⟩) hl1).trans (hc1 1 (by decide))
      have d2 : wr.cell? ⟨b1, o1 + k * 5 + 2, none⟩ = some (.int .i64 zs[k].o) := (hbel.cell (p := ⟨b1, _, none⟩) hl1).trans (hc1 2 (by decide))
      have d3 : wr.cell? ⟨b1, o1 + k * 5 + 3, none⟩ = some (.int .i64 zs[k].x) := (hbel.cell (p := ⟨b1, _, none⟩) hl1).trans (hc1 3 (by decide))
      have d4 : wr.cell? ⟨b1, o1 + k * 5 + 4, none⟩ = some (.int .i64 zs[k].y) := (hbel.cell (p := ⟨b1, _, none⟩) hl1).trans (hc1 4 (by decide))
      clear hc0 hc1
      generalize zs[k] = z at *
      obtain ⟨zc, zn, zo, zx, zy⟩ := z
      simp only at c0 c1 c2 c3 c4 d0 d1 d2 d3 d4
      have HE := eqR_refl zc zn zo zx zy
      clear hbel
      go_wp2_with fail
      go_region_with fail
      all_goals
        go_wp2_with fail
        refine ⟨⟨k + 1, by omega, by go_num, by first | exact KR.out | exact KR.out.drew⟩, ?_⟩
        simp [intOf]; omega
    · go_wp2_with fail
      refine (wpInts_c _ _ fl _ (A1.out.below hbel) (B1.out.below hbel)).mono ?_
      rintro e w2 ⟨rfl, k2⟩
      have KB := below_next hbel k2
      have hAr := carryN (below_next KR.out k2) HAW.out
      have hBr := carryN (below_next KR.out k2) HBW.out
      clear cA cB lA lB hbel k2
      have cA := cell_of_block hAr
      have lA := lt_of_block hAr
      have cB := cell_of_block hBr
      have lB := lt_of_block hBr
      have K2 := Lib.hid KB
      clear hAr hBr KB
      go_wp2_with fail
      refine (wpInts_c _ _ la _ (A2.out.below K2.out) (B2.out.below K2.out)).mono ?_
      rintro e w3 ⟨rfl, k3⟩
      clear cA cB lA lB
      go_wp2_with fail
      go_ret
      exact ⟨rfl, below_next K2.out k3⟩

end Go.Proofs.YtilldpoleiippaaGreatDoor
