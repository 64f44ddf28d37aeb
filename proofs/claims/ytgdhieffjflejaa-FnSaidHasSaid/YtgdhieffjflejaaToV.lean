/- Votes copied (toVote): the copy says the same; condition: at most 2^20 claims. -/
import Derived.Test.YtgdhieffjflejaaOpenM
import Derived.Test.YtgdhieffjflejaaRow
set_option linter.unusedSimpArgs false
set_option linter.unusedVariables false
namespace Go.Proofs.Ytgdhieffjflejaa
open Go.RowKit Go.Joins

theorem copied_cl {zs : List Cl} {w : World} {e : Ending} {w' : World} (h : Copied 62 Cl.cs zs w e w') (hn : zs.length ≤ 1048576) :
    ∃ g, e = .returned (.slice (some ⟨g, 0, none⟩) zs.length zs.length) ∧ IsSl w' (.slice (some ⟨g, 0, none⟩) zs.length zs.length) 7 Cl.cs zs ∧ Below w.heap.size w w' :=
  ⟨_, h.1, ⟨_, _, rfl, Nat.le_refl _, by unfold maxLen; omega, rows_of_block seven_len h.2.1⟩, h.2.2⟩

set_option maxRecDepth 100000 in
set_option maxHeartbeats 1000000 in
theorem toVote_c (F : Int) (a : Option Addr) (n c : Nat) (zs : List Cl) (w : World) (h : IsSl w (.slice a n c) 7 Cl.cs zs) (hn : zs.length ≤ 1048576) :
    Calls Try.prog 56 #[.agg #[.int .i64 F, .slice a n c]] w fun e w' => ∃ g, w.heap.size ≤ g ∧ e = .returned (.agg #[.int .i64 F, .slice (some ⟨g, 0, none⟩) zs.length zs.length]) ∧ IsSl w' (.slice (some ⟨g, 0, none⟩) zs.length zs.length) 7 Cl.cs zs ∧ Below w.heap.size w w' := by
  have H := Lib.hid h
  clear h
  go_enter Try.func56, Try.ntmps56
  go_wp2_with fail
  obtain ⟨W, hW, sW, aW, bW, cW, kW⟩ := blocks3 w (.cells #[.int .i64 F, .slice a n c] 86) (.cells #[.int .i64 0, .slice none 0 0] 65) (.cells #[.int .i64 F, .slice none 0 0] 65)
  rw [← hW]
  clear hW
  refine (toClaimS_c _ zs W (H.out.below kW) hn).mono ?_
  intro e w1 hcp
  obtain ⟨rfl, hb, k1⟩ := hcp
  have HB := Lib.hid hb
  have K1 := below_next kW k1
  have b1 := carryB k1 (by omega) bW
  have c1 := carryB k1 (by omega) cW
  have hsz := k1.size
  have HWS := Lib.hid (show w.heap.size + 3 = W.heap.size by omega)
  clear sW
  clear hb k1 kW aW bW cW
  have hcB := cell_of_block b1
  have hfB := unfrozen_of_block b1
  have hcC := cell_of_block c1
  have hfC := unfrozen_of_block c1
  have lb := lt_of_block b1
  have lc := lt_of_block c1
  go_wp2_with fail
  refine bodyPost_ret (v := .agg #[.int .i64 F, .slice (some ⟨W.heap.size, 0, none⟩) zs.length zs.length]) (by simp [results, Try.results56, go_sem, hcB]) rfl ?_
  have hWs := HWS.out
  refine ⟨W.heap.size, by omega, rfl, ⟨_, _, rfl, Nat.le_refl _, by unfold maxLen; omega, rows_of_block (t := 62) (fr := (0, 0)) seven_len ?_⟩, (by repeat' (first | with_reducible exact Below.refl _ _ | with_reducible assumption | with_reducible refine Below.alloc ?_ ?_ _ | with_reducible refine Below.drew ?_ | with_reducible refine Below.setCell ?_ ?_ _ | omega | (simp; omega) | (simp; done)))⟩
  repeat rw [Below.heap_setCell _ _ _ _ (by simp; omega)]
  exact HB.out
end Go.Proofs.Ytgdhieffjflejaa
