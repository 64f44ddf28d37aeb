/- Contracts of GameNew and of its reference; no condition. -/
import Derived.Test.YtilldpoleiippaaGreatDoorArgsG
import Derived.StillTailTactics
set_option linter.unusedSimpArgs false
set_option linter.unusedVariables false
namespace Go.Proofs.YtilldpoleiippaaGreatDoor
open Go.RowKit Go.Joins

/-- The floor behind k coins. -/
def floorAt : Nat → List Int
  | 0 => List.replicate 16 0
  | k + 1 => (floorAt k).set (5 * k % 16) ((floorAt k).getD (5 * k % 16) 0 + 1)
theorem floorAt_len (k : Nat) : (floorAt k).length = 16 := by
  induction k with
  | zero => rfl
  | succ k ih => unfold floorAt; rw [List.length_set]; exact ih
theorem floorAt_bound (k j : Nat) : 0 ≤ (floorAt k).getD j 0 ∧ (floorAt k).getD j 0 ≤ k := by
  induction k generalizing j with
  | zero =>
    unfold floorAt
    rw [List.getD_eq_getElem?_getD, List.getElem?_replicate]
    split <;> simp
  | succ k ih =>
    have hb := ih (5 * k % 16)
    unfold floorAt
    by_cases hj : 5 * k % 16 = j
    · rw [← hj, List.getD_eq_getElem?_getD, List.getElem?_set_self (by rw [floorAt_len]; omega)]
      simp only [Option.getD_some]
      omega
    · rw [List.getD_eq_getElem?_getD, List.getElem?_set_ne hj, ← List.getD_eq_getElem?_getD]
      have := ih j
      omega

/-- A new game: its floor and its last asks in blocks of their own. -/
def NewGame (w : World) (e : Ending) (w' : World) : Prop :=
  ∃ f l, e = .returned (.agg #[.slice none 0 0, .slice (some ⟨f, 0, none⟩) 16 16, .slice (some ⟨l, 0, none⟩) 4 4]) ∧ w'.heap[f]? = some (.cells (flat intR (floorAt 20)) 3 (0, 0)) ∧ w'.heap[l]? = some (.cells (flat intR (List.replicate 4 0)) 3 (0, 0)) ∧
    f ≠ l ∧ w.heap.size ≤ f ∧ w.heap.size ≤ l ∧ Below w.heap.size w w'

def Laid3 (w : World) (g f l : Nat) (W : World) : Prop :=
  W.heap[w.heap.size]? = some (.cells #[.slice none 0 0, .slice none 0 0, .slice none 0 0] 27 (0, 0)) ∧ W.heap[g]? = some (.cells #[.slice none 0 0, .slice (some ⟨f, 0, none⟩) 16 16, .slice (some ⟨l, 0, none⟩) 4 4] 27 (0, 0)) ∧
    W.heap[f]? = some (.cells (flat intR ([0, 0, 0, 0, 0, 0, 0, 0, 0, 0, 0, 0, 0, 0, 0, 0])) 3 (0, 0)) ∧ W.heap[l]? = some (.cells (flat intR ([0, 0, 0, 0])) 3 (0, 0)) ∧ w.heap.size < g ∧ w.heap.size < f ∧ w.heap.size < l ∧ g ≠ f ∧ g ≠ l ∧ f ≠ l ∧ Below w.heap.size w W

theorem four (w : World) (A B C D : Obj) : ((((w.alloc A).alloc B).alloc C).alloc D).drew.heap[w.heap.size]? = some A ∧ ((((w.alloc A).alloc B).alloc C).alloc D).drew.heap[w.heap.size + 1]? = some B ∧
    ((((w.alloc A).alloc B).alloc C).alloc D).drew.heap[w.heap.size + 1 + 1]? = some C ∧ ((((w.alloc A).alloc B).alloc C).alloc D).drew.heap[w.heap.size + 1 + 1 + 1]? = some D ∧ Below w.heap.size w ((((w.alloc A).alloc B).alloc C).alloc D).drew := by
  obtain ⟨W, hW, sW, aW, bW, cW, dW, kW⟩ := blocks4 w A B C D
  rw [← hW]
  exact ⟨aW, bW, cW, dW, kW.drew⟩

set_option maxRecDepth 100000 in
set_option maxHeartbeats 2000000 in
theorem l2New_c (w : World) : Calls Tryz.prog 50 #[] w (NewGame w) := by
  have hm16 : ∀ W : World, (Instr.makeSlice 25 (.int .i64 16) (.int .i64 16)).run Tryz.prog W = .ok (.slice (some ⟨W.heap.size, 0, none⟩) 16 16) (W.alloc (.cells (flat intR (List.replicate 16 0)) 3)) := fun W => make_int W 16 (by decide)
  have hm4 : ∀ W : World, (Instr.makeSlice 25 (.int .i64 4) (.int .i64 4)).run Tryz.prog W = .ok (.slice (some ⟨W.heap.size, 0, none⟩) 4 4) (W.alloc (.cells (flat intR (List.replicate 4 0)) 3)) := fun W => make_int W 4 (by decide)
  go_enter Tryz.func50, Tryz.ntmps50
  go_upto_region 1 with fail
  go_cut [1] (fun s1 wx => ∃ g f l, s1 = .pointer (some ⟨g, 0, none⟩) ∧ Laid3 w g f l wx)
  case first =>
    go_region
    all_goals
      go_wp2_with fail
      go_meet
      refine ⟨_, _, _, rfl, (four w _ _ _ _).1, (by first | with_reducible exact (four w _ _ _ _).2.1 | with_reducible exact (four w _ _ _ _).2.2.1 | with_reducible exact (four w _ _ _ _).2.2.2.1), (by first | with_reducible exact (four w _ _ _ _).2.1 | with_reducible exact (four w _ _ _ _).2.2.1 | with_reducible exact (four w _ _ _ _).2.2.2.1), (by first | with_reducible exact (four w _ _ _ _).2.1 | with_reducible exact (four w _ _ _ _).2.2.1 | with_reducible exact (four w _ _ _ _).2.2.2.1), by omega, by omega, by omega, by omega, by omega, by omega, (four w _ _ _ _).2.2.2.2⟩
  case rest =>
    obtain ⟨g, f, l, rfl, h0, hg, hf, hl, lg, lf, ll, n1, n2, n3, bel⟩ := hcut
    have HL := Lib.hid hl
    have H0 := Lib.hid h0
    clear hl h0 hm16 hm4
    go_wp2_with fail
    go_loopw [2] (fun i wr => ∃ k : Nat, k ≤ 20 ∧ i = .int .i64 k ∧ wr.heap[f]? = some (.cells (flat intR (floorAt k)) 3 (0, 0)) ∧ (∀ b, b < wc.heap.size → b ≠ f → wr.heap[b]? = wc.heap[b]?) ∧ wr.heap.size = wc.heap.size ∧ Below w.heap.size w wr) (fun i _ => 20 - (intOf i).toNat)
    case atStart => exact ⟨0, Nat.zero_le _, rfl, hf, fun _ _ _ => rfl, rfl, bel⟩
    case round =>
      obtain ⟨k, hk, rfl, hB, hob, hsz, hbel⟩ := hrel
      have lgc := lt_of_block hg
      have hgW := (hob g lgc n1).trans hg
      by_cases hlt : k < 20
      · have hcG := cell_of_block hgW
        have hfF := unfrozen_of_block hB
        have hi : 5 * k % 16 < 16 := by omega
        have hcF : wr.cell? ⟨f, 5 * k % 16, none⟩ = some (.int .i64 ((floorAt k).getD (5 * k % 16) 0)) := by
          rw [cell_of_block hB, flat_int, List.getElem?_toArray, List.getElem?_map, List.getD_eq_getElem?_getD, List.getElem?_eq_getElem (by rw [floorAt_len]; exact hi)]
          rfl
        have hx := floorAt_bound k (5 * k % 16)
        have hB' := block_setCell (i := 5 * k % 16) hB (.int .i64 ((floorAt k).getD (5 * k % 16) 0 + 1))
        rw [flat_int_set] at hB'
        have HN := Lib.hid (show (floorAt k).set (5 * k % 16) ((floorAt k).getD (5 * k % 16) 0 + 1) = floorAt (k + 1) from rfl)
        have hw1 : IntKind.i64.wrap ((k : Int) * 5) = (k : Int) * 5 := IntWalk.i64_in _ ⟨by omega, by omega⟩
        have hw2 : ((k : Int) * 5).tmod 16 = ((5 * k % 16 : Nat) : Int) := by rw [Int.tmod_eq_emod_of_nonneg (by omega), Int.mul_comm]; rfl
        generalize (floorAt k).getD (5 * k % 16) 0 = x at *
        generalize 5 * k % 16 = i at *
        have hw3 : IntKind.i64.wrap (x + 1) = x + 1 := IntWalk.i64_in _ ⟨by omega, by omega⟩
        have hw4 : IntKind.i64.wrap (i : Int) = (i : Int) := IntWalk.i64_in _ ⟨by omega, by omega⟩
        have hi0 : (0 : Int) ≤ (i : Int) := by omega
        have hi1 : (i : Int) < 16 := by omega
        have HB' := Lib.hid hB'
        have HO := Lib.hid hob
        clear hB' hB hob hgW
        go_wp2_with fail
        go_still_tail 10, (by kernel_rfl)
        change wpList _ _ _ _ _ wr.drew
        go_wp2_with fail
        go_roundw
        case rel =>
          refine ⟨k + 1, by omega, ?_, ?_, ?_, ?_, ?_⟩
          · go_num
          · rw [← HN.out]; exact HB'.out
          · intro b hb hbf
            exact (Below.heap_setCell wr ⟨f, i, none⟩ _ b hbf).trans (HO.out b hb hbf)
          · rw [← hsz]; simp
          · exact Below.setCell hbel.drew (Nat.le_of_lt lf) _
        case measure => simp [intOf]; omega
      · have hkk : k = 20 := by omega
        subst hkk
        have h0W := (hob _ (lt_of_block H0.out) (by omega)).trans H0.out
        have hlW := (hob _ (lt_of_block HL.out) (by omega)).trans HL.out
        have hcG := cell_of_block hgW
        have hcR := cell_of_block h0W
        have hfR := unfrozen_of_block h0W
        have HF := Lib.hid hB
        have HL' := Lib.hid hlW
        clear hB hob hlt
        go_wp2_with fail
        refine bodyPost_ret (v := .agg #[.slice none 0 0, .slice (some ⟨f, 0, none⟩) 16 16, .slice (some ⟨l, 0, none⟩) 4 4]) (by simp [results, Tryz.results50, go_sem, hcR]) rfl ?_
        refine ⟨f, l, rfl, ?_, ?_, n3, by omega, by omega, (by repeat' (first | with_reducible exact Below.refl _ _ | with_reducible assumption | with_reducible refine Below.alloc ?_ ?_ _ | with_reducible refine Below.drew ?_ | with_reducible refine Below.setCell ?_ ?_ _ | omega | (simp; omega) | (simp; done)))⟩
        · repeat rw [Below.heap_setCell _ _ _ _ (by simp; omega)]
          exact HF.out
        · repeat rw [Below.heap_setCell _ _ _ _ (by simp; omega)]
          exact HL'.out

end Go.Proofs.YtilldpoleiippaaGreatDoor
