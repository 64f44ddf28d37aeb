/- The reference's fold of asks over a new game; condition: good asks. | Contracts of wpInts, wpReqs, wpGame, wpAhead: two that are alike are found alike; no condition. | The program's fold of asks over an ok game (played); condition: good asks, an ok game of its own. | GameFold, the program's and the reference's; condition: a small list. -/
import Derived.Test.YtofedboeggdkaaaKCk
import Derived.Test.YtofedboeggdkaaaKB
import Derived.Test.YtofedboeggdkaaaKA
import Derived.Test.YtofedboeggdkaaaKDk
set_option linter.unusedSimpArgs false
set_option linter.unusedVariables false
/-! The reference's fold of asks over a new game; condition: good asks. -/
namespace Go.Proofs.Ytofedboeggdkaaa
open Go.RowKit Go.Joins

theorem own3_new {w : World} {B f l : Nat} (hf : w.heap[f]? = some (.cells (flat intR (floorAt 20)) 3 (0, 0))) (hl : w.heap[l]? = some (.cells (flat intR (List.replicate 4 0)) 3 (0, 0))) (hn : f ≠ l) (h1 : B ≤ f) (h2 : B ≤ l) :
    Own3 w B none 0 (some ⟨f, 0, none⟩) 16 (some ⟨l, 0, none⟩) 4 newG := by
  have r1 : Row w B 3 (some ⟨f, 0, none⟩) 16 1 intR newG.fl := Row.of_block (zs := newG.fl) int_len hf h1 (by simp only [maxLen]; decide)
  have r2 : Row w B 3 (some ⟨l, 0, none⟩) 4 1 intR newG.la := Row.of_block (zs := newG.la) int_len hl h2 (by simp only [maxLen]; decide)
  exact ⟨Row.nil _ _ _ _ _ _, r1, r2, (fun g hg => by cases hg), (fun g hg => by cases hg), (fun g hg h => by have := rowBlk_some hg; have := rowBlk_some h; omega)⟩

end Go.Proofs.Ytofedboeggdkaaa

/-! Contracts of wpInts, wpReqs, wpGame, wpAhead: two that are alike are found alike; no condition. -/
namespace Go.Proofs.Ytofedboeggdkaaa
open Go.RowKit Go.Joins

theorem neq_et (w : World) (c n o x y c' n' o' x' y' : Int) : (binOp .neq 92 (.agg #[.int .i64 c, .int .i64 n, .int .i64 o, .int .i64 x, .int .i64 y]) (.agg #[.int .i64 c', .int .i64 n', .int .i64 o', .int .i64 x', .int .i64 y'])).run Try.prog w = .ok (.bool (!eqR c n o x y c' n' o' x' y')) w := by
  go_simp
  by_cases h1 : c = c' <;> by_cases h2 : n = n' <;> by_cases h3 : o = o' <;> by_cases h4 : x = x' <;> by_cases h5 : y = y' <;> simp [eqR, h1, h2, h3, h4, h5]
attribute [local go_sem ↓] neq_rq neq_et

set_option maxHeartbeats 1000000 in
theorem wpInts_c (va vb : Value) (zs : List Int) (w : World) (ha : IsSl w va 1 intR zs) (hb : IsSl w vb 1 intR zs) :
    Calls Try.prog 46 #[va, vb] w (Yes w) := by
  obtain ⟨a, cap, rfl, hlc, hm, hra⟩ := ha
  obtain ⟨b, cap', rfl, hlc', hm', hrb⟩ := hb
  have HA := Lib.hid hra
  have HB := Lib.hid hrb
  clear hra hrb
  unfold maxLen at hm hm'
  generalize hnn : zs.length = n at *
  go_enter Try.func46, Try.ntmps46
  go_wp2_with fail
  go_loopw [5] (fun i wr => ∃ k : Nat, k ≤ n ∧ i = .int .i64 k ∧ Below w.heap.size w wr) (fun i _ => n - (intOf i).toNat)
  case atStart => exact ⟨0, Nat.zero_le _, rfl, Below.refl _ _⟩
  case round =>
    obtain ⟨k, hk, rfl, hbel⟩ := hrel
    by_cases hlt : k < n
    · have hkz : k < zs.length := by omega
      have hk1 : (k : Int) < (n : Int) := by omega
      have hk0 : (0 : Int) ≤ (k : Int) := by omega
      obtain ⟨b0, o0, rfl, hl0, hc0⟩ := HA.out k hkz
      obtain ⟨b1, o1, rfl, hl1, hc1⟩ := HB.out k hkz
      have c0 : wr.cell? ⟨b0, o0 + k, none⟩ = some (.int .i64 zs[k]) := by
        have h := (hbel.cell (p := ⟨b0, _, none⟩) hl0).trans (hc0 0 (by decide))
        rwa [Nat.mul_one, Nat.add_zero] at h
      have d0 : wr.cell? ⟨b1, o1 + k, none⟩ = some (.int .i64 zs[k]) := by
        have h := (hbel.cell (p := ⟨b1, _, none⟩) hl1).trans (hc1 0 (by decide))
        rwa [Nat.mul_one, Nat.add_zero] at h
      clear hc0 hc1
      generalize zs[k] = z at *
      go_wp2_with fail
      go_region_with fail
      all_goals
        have hbel1 := Below.drew hbel
        clear hbel
        go_wp2_with fail
        refine ⟨⟨k + 1, by omega, by go_num, hbel1⟩, ?_⟩
        simp [intOf]; omega
    · go_wp2_with fail
      go_ret
      exact ⟨rfl, hbel⟩

set_option maxRecDepth 100000 in
set_option maxHeartbeats 4000000 in
theorem wpReqs_c (va vb : Value) (zs : List Rq) (w : World) (ha : IsSl w va 5 Rq.cs zs) (hb : IsSl w vb 5 Rq.cs zs) :
    Calls Try.prog 35 #[va, vb] w (Yes w) := by
  obtain ⟨a, cap, rfl, hlc, hm, hra⟩ := ha
  obtain ⟨b, cap', rfl, hlc', hm', hrb⟩ := hb
  have HA := Lib.hid hra
  have HB := Lib.hid hrb
  clear hra hrb
  unfold maxLen at hm hm'
  generalize hnn : zs.length = n at *
  go_enter Try.func35, Try.ntmps35
  go_wp2_with fail
  go_loopw [5] (fun i wr => ∃ k : Nat, k ≤ n ∧ i = .int .i64 k ∧ Below w.heap.size w wr) (fun i _ => n - (intOf i).toNat)
  case atStart => exact ⟨0, Nat.zero_le _, rfl, Below.refl _ _⟩
  case round =>
    obtain ⟨k, hk, rfl, hbel⟩ := hrel
    by_cases hlt : k < n
    · have hkz : k < zs.length := by omega
      have hk1 : (k : Int) < (n : Int) := by omega
      have hk0 : (0 : Int) ≤ (k : Int) := by omega
      obtain ⟨b0, o0, rfl, hl0, hc0⟩ := HA.out k hkz
      obtain ⟨b1, o1, rfl, hl1, hc1⟩ := HB.out k hkz
      have c0 : wr.cell? ⟨b0, o0 + k * 5, none⟩ = some (.int .i64 zs[k].c) := (hbel.cell (p := ⟨b0, _, none⟩) hl0).trans (hc0 0 (by decide))
      have c1 : wr.cell? ⟨b0, o0 + k * 5 + 1, none⟩ = some (.int .i64 zs[k].n) := (hbel.cell (p := ⟨b0, _, none⟩) hl0).trans (hc0 1 (by decide))
      have c2 : wr.cell? ⟨b0, o0 + k * 5 + 2, none⟩ = some (.int .i64 zs[k].o) := (hbel.cell (p := ⟨b0, _, none⟩) hl0).trans (hc0 2 (by decide))
      have c3 : wr.cell? ⟨b0, o0 + k * 5 + 3, none⟩ = some (.int .i64 zs[k].x) := (hbel.cell (p := ⟨b0, _, none⟩) hl0).trans (hc0 3 (by decide))
      have c4 : wr.cell? ⟨b0, o0 + k * 5 + 4, none⟩ = some (.int .i64 zs[k].y) := (hbel.cell (p := ⟨b0, _, none⟩) hl0).trans (hc0 4 (by decide))
      have d0 : wr.cell? ⟨b1, o1 + k * 5, none⟩ = some (.int .i64 zs[k].c) := (hbel.cell (p := ⟨b1, _, none⟩) hl1).trans (hc1 0 (by decide))
      have d1 : wr.cell? ⟨b1, o1 + k * 5 + 1, none⟩ = some (.int .i64 zs[k].n) := (hbel.cell (p := ⟨b1, _, none⟩) hl1).trans (hc1 1 (by decide))
      have d2 : wr.cell? ⟨b1, o1 + k * 5 + 2, none⟩ = some (.int .i64 zs[k].o) := (hbel.cell (p := ⟨b1, _, none⟩) hl1).trans (hc1 2 (by decide))
      have d3 : wr.cell? ⟨b1, o1 + k * 5 + 3, none⟩ = some (.int .i64 zs[k].x) := (hbel.cell (p := ⟨b1, _, none⟩) hl1).trans (hc1 3 (by decide))
      have d4 : wr.cell? ⟨b1, o1 + k * 5 + 4, none⟩ = some (.int .i64 zs[k].y) := (hbel.cell (p := ⟨b1, _, none⟩) hl1).trans (hc1 4 (by decide))
      clear hc0 hc1
      generalize zs[k] = z at *
      obtain ⟨zc, zn, zo, zx, zy⟩ := z
      simp only at c0 c1 c2 c3 c4 d0 d1 d2 d3 d4
      have HE := eqR_refl zc zn zo zx zy
      go_wp2_with fail
      go_region_with fail
      all_goals
        go_wp2_with fail
        refine ⟨⟨k + 1, by omega, by go_num, by first | exact hbel | exact hbel.drew⟩, ?_⟩
        simp [intOf]; omega
    · go_wp2_with fail
      go_ret
      exact ⟨rfl, hbel⟩

set_option maxRecDepth 100000 in
set_option maxHeartbeats 8000000 in
theorem wpGame_c (z : Gm) (a0 a1 a2 b0 b1 b2 : Option Addr) (n m l : Nat) (c0 c1 c2 d0 d1 d2 : Nat) (w : World) (ha0 : IsSl w (.slice a0 n c0) 5 Rq.cs z.es) (ha1 : IsSl w (.slice a1 m c1) 1 intR z.fl) (ha2 : IsSl w (.slice a2 l c2) 1 intR z.la)
    (hb0 : IsSl w (.slice b0 n d0) 5 Rq.cs z.es) (hb1 : IsSl w (.slice b1 m d1) 1 intR z.fl) (hb2 : IsSl w (.slice b2 l d2) 1 intR z.la) :
    Calls Try.prog 32 #[.agg #[.slice a0 n c0, .slice a1 m c1, .slice a2 l c2], .agg #[.slice b0 n d0, .slice b1 m d1, .slice b2 l d2]] w (Yes w) := by
  have A1 := Lib.hid ha1
  have B1 := Lib.hid hb1
  have A2 := Lib.hid ha2
  have B2 := Lib.hid hb2
  obtain ⟨a, cap, he, hlc, hm, hra⟩ := ha0
  obtain ⟨b, cap', he', hlc', hm', hrb⟩ := hb0
  injection he with h1 h2 h3
  injection he' with h4 h5 h6
  subst h1 h3 h4 h6
  clear ha1 hb1 ha2 hb2 h5
  have HA := Lib.hid hra
  have HB := Lib.hid hrb
  clear hra hrb
  unfold maxLen at hm hm'
  obtain ⟨es, fl, la⟩ := z
  simp only at h2 HA HB A1 A2 B1 B2 hlc hlc'
  obtain ⟨zs, hzs⟩ : ∃ zs, zs = es := ⟨_, rfl⟩
  rw [← hzs] at h2 HA HB hlc hlc'
  clear hzs
  have HN := Lib.hid h2
  have hnc : n ≤ 9223372036854775807 := by omega
  clear h2 hlc hlc' hm hm'
  go_enter Try.func32, Try.ntmps32
  go_wp2_with fail
  obtain ⟨W, hW, sW, aW, bW, kW⟩ := blocks2 w (.cells #[.slice a0 n c0, .slice a1 m c1, .slice a2 l c2] 46) (.cells #[.slice b0 n d0, .slice b1 m d1, .slice b2 l d2] 46)
  rw [← hW]
  clear hW
  have HAW := Lib.hid aW
  have HBW := Lib.hid bW
  have KW := Lib.hid kW
  clear sW kW
  have cA := cell_of_block aW
  have lA := lt_of_block aW
  have cB := cell_of_block bW
  have lB := lt_of_block bW
  clear aW bW
  go_wp2_with fail
  clear cA cB lA lB
  go_loopw [5] (fun i wr => ∃ k : Nat, k ≤ n ∧ i = .int .i64 k ∧ Below W.heap.size W wr) (fun i _ => n - (intOf i).toNat)
  case atStart => exact ⟨0, Nat.zero_le _, rfl, Below.refl _ _⟩
  case round =>
    obtain ⟨k, hk, rfl, hbelW⟩ := hrel
    have hAr := carryN hbelW HAW.out
    have hBr := carryN hbelW HBW.out
    have hbel := below_next KW.out hbelW
    have KR := Lib.hid hbelW
    have cA := cell_of_block hAr
    have lA := lt_of_block hAr
    have cB := cell_of_block hBr
    have lB := lt_of_block hBr
    clear hAr hBr hbelW
    by_cases hlt : k < n
    · have hkz : k < zs.length := by have := HN.out; omega
      have hk1 : (k : Int) < (n : Int) := by omega
      have hk0 : (0 : Int) ≤ (k : Int) := by omega
      obtain ⟨b0, o0, rfl, hl0, hc0⟩ := HA.out k hkz
      obtain ⟨b1, o1, rfl, hl1, hc1⟩ := HB.out k hkz
      have c0 : wr.cell? ⟨b0, o0 + k * 5, none⟩ = some (.int .i64 zs[k].c) := (hbel.cell (p := ⟨b0, _, none⟩) hl0).trans (hc0 0 (by decide))
      have c1 : wr.cell? ⟨b0, o0 + k * 5 + 1, none⟩ = some (.int .i64 zs[k].n) := (hbel.cell (p := ⟨b0, _, none⟩) hl0).trans (hc0 1 (by decide))
      have c2 : wr.cell? ⟨b0, o0 + k * 5 + 2, none⟩ = some (.int .i64 zs[k].o) := (hbel.cell (p := ⟨b0, _, none⟩) hl0).trans (hc0 2 (by decide))
      have c3 : wr.cell? ⟨b0, o0 + k * 5 + 3, none⟩ = some (.int .i64 zs[k].x) := (hbel.cell (p := ⟨b0, _, none⟩) hl0).trans (hc0 3 (by decide))
      have c4 : wr.cell? ⟨b0, o0 + k * 5 + 4, none⟩ = some (.int .i64 zs[k].y) := (hbel.cell (p := ⟨b0, _, none⟩) hl0).trans (hc0 4 (by decide))
      have d0 : wr.cell? ⟨b1, o1 + k * 5, none⟩ = some (.int .i64 zs[k].c) := (hbel.cell (p := ⟨b1, _, none⟩) hl1).trans (hc1 0 (by decide))
      have d1 : wr.cell? ⟨b1, o1 + k * 5 + 1, none⟩ = some (.int .i64 zs[k].n) := (hbel.cell (p := ⟨b1, _, none⟩) hl1).trans (hc1 1 (by decide))
      have d2 : wr.cell? ⟨b1, o1 + k * 5 + 2, none⟩ = some (.int .i64 zs[k].o) := (hbel.cell (p := ⟨b1, _, none⟩) hl1).trans (hc1 2 (by decide))
      have d3 : wr.cell? ⟨b1, o1 + k * 5 + 3, none⟩ = some (.int .i64 zs[k].x) := (hbel.cell (p := ⟨b1, _, none⟩) hl1).trans (hc1 3 (by decide))
      have d4 : wr.cell? ⟨b1, o1 + k * 5 + 4, none⟩ = some (.int .i64 zs[k].y) := (hbel.cell (p := ⟨b1, _, none⟩) hl1).trans (hc1 4 (by decide))
      clear hc0 hc1
      generalize zs[k] = z at *
      obtain ⟨zc, zn, zo, zx, zy⟩ := z
      simp only at c0 c1 c2 c3 c4 d0 d1 d2 d3 d4
      have HE := eqR_refl zc zn zo zx zy
      clear hbel
      go_wp2_with fail
      go_region_with fail
      all_goals
        go_wp2_with fail
        refine ⟨⟨k + 1, by omega, by go_num, by first | exact KR.out | exact KR.out.drew⟩, ?_⟩
        simp [intOf]; omega
    · go_wp2_with fail
      refine (wpInts_c _ _ fl _ (A1.out.below hbel) (B1.out.below hbel)).mono ?_
      rintro e w2 ⟨rfl, k2⟩
      have KB := below_next hbel k2
      have hAr := carryN (below_next KR.out k2) HAW.out
      have hBr := carryN (below_next KR.out k2) HBW.out
      clear cA cB lA lB hbel k2
      have cA := cell_of_block hAr
      have lA := lt_of_block hAr
      have cB := cell_of_block hBr
      have lB := lt_of_block hBr
      have K2 := Lib.hid KB
      clear hAr hBr KB
      go_wp2_with fail
      refine (wpInts_c _ _ la _ (A2.out.below K2.out) (B2.out.below K2.out)).mono ?_
      rintro e w3 ⟨rfl, k3⟩
      clear cA cB lA lB
      go_wp2_with fail
      go_ret
      exact ⟨rfl, below_next K2.out k3⟩

end Go.Proofs.Ytofedboeggdkaaa

/-! The program's fold of asks over an ok game (played); condition: good asks, an ok game of its own. -/
namespace Go.Proofs.Ytofedboeggdkaaa
open Go.RowKit Go.Joins

set_option maxRecDepth 100000 in
set_option maxHeartbeats 8000000 in
theorem played_c {B : Nat} (z : Gm) (v u : Value) (rs : List Rq) (w : World) (ho : OwnGm w B v z) (hB : B ≤ w.heap.size) (ha : IsSl w u 5 Rq.cs rs) (hz : gameB z = true) (hg : rs.all good = true) :
    Calls Try.prog 84 #[v, u] w fun e w' => ∃ v, e = .returned v ∧ OwnGm w' B v (foldG z rs) ∧ Below w.heap.size w w' := by
  obtain ⟨a, cap, rfl, hlc, hm, hra⟩ := ha
  obtain ⟨a0, c0, a1, c1, a2, c2, rfl, o1⟩ := ho.rows
  have HA := Lib.hid hra
  have HG := Lib.hid hg
  have HZ := Lib.hid hz
  have O1 := Lib.hid o1
  have HB := Lib.hid hB
  clear hra hg hz ho o1 hB
  unfold maxLen at hm
  obtain ⟨n, hn⟩ : ∃ n, n = rs.length := ⟨_, rfl⟩
  rw [← hn] at hlc ⊢
  have HN := Lib.hid hn
  have hnm : n ≤ 9223372036854775807 := by omega
  clear hn hlc hm
  go_enter Try.func84, Try.ntmps84
  go_wp2_with fail
  obtain ⟨W, hW, sW, gW, rW, kW⟩ := blocks2 w (.cells #[.slice a0 z.es.length c0, .slice a1 z.fl.length c1, .slice a2 z.la.length c2] 46) (.cells #[.slice none 0 0, .slice none 0 0, .slice none 0 0] 46)
  rw [← hW]
  clear hW sW
  replace O1 := Lib.hid (O1.out.below kW)
  have GW := Lib.hid gW
  have RW := Lib.hid rW
  have KW := Lib.hid kW
  clear kW gW rW
  go_loopw [9] (fun i wr => ∃ (k : Nat) (g : Gm) (b0 b1 b2 : Option Addr) (d0 d1 d2 : Nat), k ≤ n ∧ i = .int .i64 k ∧ g = foldG z (rs.take k) ∧ wr.heap[w.heap.size]? = some (.cells #[.slice b0 g.es.length d0, .slice b1 g.fl.length d1, .slice b2 g.la.length d2] 46 (0, 0)) ∧
      wr.heap[w.heap.size + 1]? = some (.cells #[.slice none 0 0, .slice none 0 0, .slice none 0 0] 46 (0, 0)) ∧ Own3 wr B b0 d0 b1 d1 b2 d2 g ∧ Below w.heap.size w wr) (fun i _ => n - (intOf i).toNat)
  case atStart => exact ⟨0, z, a0, a1, a2, c0, c1, c2, Nat.zero_le _, rfl, rfl, GW.out, RW.out, O1.out, KW.out⟩
  case round =>
    obtain ⟨k, g, b0, b1, b2, d0, d1, d2, hk, rfl, hgk, hG, hR, hO, hbel⟩ := hrel
    have HRR := Lib.hid hR
    have HGG := Lib.hid hG
    have OV := Lib.hid hO
    have K := Lib.hid hbel
    by_cases hlt : k < n
    · have hkz : k < rs.length := by have := HN.out; omega
      have hk1 : (k : Int) < (n : Int) := by omega
      have hk0 : (0 : Int) ≤ (k : Int) := by omega
      have hwk : IntKind.i64.wrap ((k : Int) + 1) = (k : Int) + 1 := IntWalk.i64_in _ ⟨by omega, by omega⟩
      obtain ⟨bb, oo, rfl, hl0, hc0⟩ := HA.out k hkz
      have c0 : wr.cell? ⟨bb, oo + k * 5, none⟩ = some (.int .i64 rs[k].c) := (hbel.cell (p := ⟨bb, _, none⟩) hl0).trans (hc0 0 (by decide))
      have c1 : wr.cell? ⟨bb, oo + k * 5 + 1, none⟩ = some (.int .i64 rs[k].n) := (hbel.cell (p := ⟨bb, _, none⟩) hl0).trans (hc0 1 (by decide))
      have c2 : wr.cell? ⟨bb, oo + k * 5 + 2, none⟩ = some (.int .i64 rs[k].o) := (hbel.cell (p := ⟨bb, _, none⟩) hl0).trans (hc0 2 (by decide))
      have c3 : wr.cell? ⟨bb, oo + k * 5 + 3, none⟩ = some (.int .i64 rs[k].x) := (hbel.cell (p := ⟨bb, _, none⟩) hl0).trans (hc0 3 (by decide))
      have c4 : wr.cell? ⟨bb, oo + k * 5 + 4, none⟩ = some (.int .i64 rs[k].y) := (hbel.cell (p := ⟨bb, _, none⟩) hl0).trans (hc0 4 (by decide))
      have hgood := all_getG HG.out hkz
      have hokg : gameB g = true := by rw [hgk]; exact foldG_ok _ _ HZ.out (all_takeG k HG.out)
      have hnext := foldG_take_succ z hkz
      rw [← hgk] at hnext
      obtain ⟨r, hr⟩ : ∃ r, r = rs[k] := ⟨_, rfl⟩
      rw [← hr] at c0 c1 c2 c3 c4 hgood hnext
      have hlens := game_lensG hokg
      have h4 : g.es.length ≤ 4 := by
        have h := hokg
        rw [gameB_iff] at h
        exact ents_le4 h.1
      have CD := Lib.hid (fun V (h : Own3 V B b0 d0 b1 d1 b2 d2 g) => GameDoF_c g r b0 b1 b2 d0 d1 d2 V (h.e.sl five_len) (h.f.sl int_len) (h.l.sl int_len) (by omega))
      rw [gameDo_yes hokg hgood] at CD
      obtain ⟨p, hp⟩ : ∃ p, p = doG g r := ⟨_, rfl⟩
      rw [← hp] at CD hnext
      obtain ⟨y, b⟩ := p
      have HX := Lib.hid hnext
      clear hgood hokg hnext hr hp hc0 hl0 hgk hbel hO hR hlens h4
      have cG := cell_of_block hG
      have lG := lt_of_block hG
      simp only at CD HX
      go_wp2_with fail
      obtain ⟨wa, hwa, swa, qA, ka⟩ := blocks1 wr (.cells #[.int .i64 r.c, .int .i64 r.n, .int .i64 r.o, .int .i64 r.x, .int .i64 r.y] 34)
      rw [← hwa]
      clear hwa
      refine (CD.out wa (OV.out.below ka)).mono ?_
      rintro e w5 ⟨e0, e1, e2, rfl, o5, kk⟩
      have k5 := below_next ka kk
      have hG5 := carryN k5 hG
      have hR5 := Lib.hid (carryN k5 HRR.out)
      have KB := HB.out
      have KS := K.out.size
      have O5 := Lib.hid (o5.low (show B ≤ wa.heap.size by omega))
      have K5 := Lib.hid (below_next K.out k5)
      clear swa qA ka kk k5 o5 cG lG hG c0 c1 c2 c3 c4 KB KS OV HGG HRR K
      have cG := cell_of_block hG5
      have fG := unfrozen_of_block hG5
      have lG := lt_of_block hG5
      have HGG := Lib.hid hG5
      clear hG5
      go_wp2_with fail
      go_roundw
      case rel =>
        refine ⟨k + 1, y, e0, e1, e2, y.es.length, y.fl.length, y.la.length, by omega, ?_, HX.out.symm, ?_, ?_, ?_, ?_⟩
        · go_num
        · exact block_set3 HGG.out _ _ _
        · exact (block_kept3 (by omega) _ _ _).trans hR5.out
        · exact O5.out.set3 HGG.out _ _ _
        · exact below_set3 K5.out (Nat.le_refl _) _ _ _
      case measure => simp [intOf]; omega
    · have hkk : k = n := by omega
      subst hkk
      have hgk' : g = foldG z rs := by rw [hgk, List.take_of_length_le (by have := HN.out; omega)]
      have HK := Lib.hid hgk'
      clear hgk hgk' hO hbel
      have cG := cell_of_block hG
      have lG := lt_of_block hG
      have cR := cell_of_block hR
      have fR := unfrozen_of_block hR
      have lR := lt_of_block hR
      clear hR hG
      go_wp2_with fail
      refine bodyPost_ret (v := .agg #[.slice b0 g.es.length d0, .slice b1 g.fl.length d1, .slice b2 g.la.length d2]) (by simp [results, Try.results84, go_sem, cR]) rfl ?_
      refine ⟨_, rfl, ?_, below_set3 K.out (Nat.le_succ _) _ _ _⟩
      rw [← HK.out]
      exact (OV.out.set3 HRR.out _ _ _).gm
end Go.Proofs.Ytofedboeggdkaaa

/-! GameFold, the program's and the reference's; condition: a small list. -/
namespace Go.Proofs.Ytofedboeggdkaaa
open Go.RowKit Go.Joins

/-- A game in rows of its own. -/
def GameOwn (z : Gm) (w : World) (e : Ending) (w' : World) : Prop := ∃ v, e = .returned v ∧ OwnGm w' w.heap.size v z ∧ Below w.heap.size w w'

end Go.Proofs.Ytofedboeggdkaaa
