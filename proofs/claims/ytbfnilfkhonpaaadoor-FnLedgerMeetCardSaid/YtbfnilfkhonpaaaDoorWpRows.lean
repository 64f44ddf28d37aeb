/- Contract of wpRows: two lists of rows that are alike are found alike; no condition. -/
import Derived.Test.YtbfnilfkhonpaaaDoorMeet
namespace Go.Proofs.YtbfnilfkhonpaaaDoor
open Go.RowKit Go.Joins
attribute [local go_sem ↓] neq_en

set_option maxRecDepth 100000 in
set_option maxHeartbeats 4000000 in
theorem wpRows_c (va vb : Value) (zs : List En) (w : World) (ha : IsSl w va 6 En.cs zs) (hb : IsSl w vb 6 En.cs zs) :
    Calls Tryd.prog 21 #[va, vb] w fun e w' => e = .returned (.bool true) ∧ Below w.heap.size w w' := by
  obtain ⟨a, cap, rfl, hlc, hm, hra⟩ := ha
  obtain ⟨b, cap', rfl, hlc', hm', hrb⟩ := hb
  have HA := Lib.hid hra
  have HB := Lib.hid hrb
  clear hra hrb
  unfold maxLen at hm hm'
  generalize hnn : zs.length = n at *
  go_enter Tryd.func21, Tryd.ntmps21
  go_wp2_with fail
  go_loopw [5] (fun i wr => ∃ k : Nat, k ≤ n ∧ i = .int .i64 k ∧ Below w.heap.size w wr) (fun i _ => n - (intOf i).toNat)
  case atStart => exact ⟨0, Nat.zero_le _, rfl, Below.refl _ _⟩
  case round =>
    obtain ⟨k, hk, rfl, hbel⟩ := hrel
    by_cases hlt : k < n
    · have hkz : k < zs.length := by omega
      have hk1 : (k : Int) < (n : Int) := by omega
      have hk0 : (0 : Int) ≤ (k : Int) := by omega
      obtain ⟨b0, o0, rfl, hl0, hc0⟩ := HA.out k hkz
      obtain ⟨b1, o1, rfl, hl1, hc1⟩ := HB.out k hkz
      have c0 : wr.cell? ⟨b0, o0 + k * 6, none⟩ = some (.int .i64 zs[k].r.c) := (hbel.cell (p := ⟨b0, _, none⟩) hl0).trans (hc0 0 (by decide))
      have c1 : wr.cell? ⟨b0, o0 + k * 6 + 1, none⟩ = some (.int .i64 zs[k].r.n) := (hbel.cell (p := ⟨b0, _, none⟩) hl0).trans (hc0 1 (by decide))
      have c2 : wr.cell? ⟨b0, o0 + k * 6 + 2, none⟩ = some (.int .i64 zs[k].r.o) := (hbel.cell (p := ⟨b0, _, none⟩) hl0).trans (hc0 2 (by decide))
      have c3 : wr.cell? ⟨b0, o0 + k * 6 + 3, none⟩ = some (.int .i64 zs[k].r.x) := (hbel.cell (p := ⟨b0, _, none⟩) hl0).trans (hc0 3 (by decide))
      have c4 : wr.cell? ⟨b0, o0 + k * 6 + 4, none⟩ = some (.int .i64 zs[k].r.y) := (hbel.cell (p := ⟨b0, _, none⟩) hl0).trans (hc0 4 (by decide))
      have c5 : wr.cell? ⟨b0, o0 + k * 6 + 5, none⟩ = some (.int .i64 zs[k].s) := (hbel.cell (p := ⟨b0, _, none⟩) hl0).trans (hc0 5 (by decide))
      have d0 : wr.cell? ⟨b1, o1 + k * 6, none⟩ = some (.int .i64 zs[k].r.c) := (hbel.cell (p := ⟨b1, _, none⟩) hl1).trans (hc1 0 (by decide))
      have d1 : wr.cell? ⟨b1, o1 + k * 6 + 1, none⟩ = some (.int .i64 zs[k].r.n) := (hbel.cell (p := ⟨b1, _, none⟩) hl1).trans (hc1 1 (by decide))
      have d2 : wr.cell? ⟨b1, o1 + k * 6 + 2, none⟩ = some (.int .i64 zs[k].r.o) := (hbel.cell (p := ⟨b1, _, none⟩) hl1).trans (hc1 2 (by decide))
      have d3 : wr.cell? ⟨b1, o1 + k * 6 + 3, none⟩ = some (.int .i64 zs[k].r.x) := (hbel.cell (p := ⟨b1, _, none⟩) hl1).trans (hc1 3 (by decide))
      have d4 : wr.cell? ⟨b1, o1 + k * 6 + 4, none⟩ = some (.int .i64 zs[k].r.y) := (hbel.cell (p := ⟨b1, _, none⟩) hl1).trans (hc1 4 (by decide))
      have d5 : wr.cell? ⟨b1, o1 + k * 6 + 5, none⟩ = some (.int .i64 zs[k].s) := (hbel.cell (p := ⟨b1, _, none⟩) hl1).trans (hc1 5 (by decide))
      clear hc0 hc1
      generalize zs[k] = z at *
      obtain ⟨⟨zc, zn, zo, zx, zy⟩, zs'⟩ := z
      simp only at c0 c1 c2 c3 c4 c5 d0 d1 d2 d3 d4 d5
      have HE := eqE_refl zc zn zo zx zy zs'
      go_wp2_with fail
      go_region_with fail
      all_goals
        go_wp2_with fail
        refine ⟨⟨k + 1, by omega, by go_num, by first | exact hbel | exact hbel.drew⟩, ?_⟩
        simp [intOf]; omega
    · go_wp2_with fail
      go_ret
      exact ⟨rfl, hbel⟩
end Go.Proofs.YtbfnilfkhonpaaaDoor
