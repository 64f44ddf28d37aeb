/- Contracts of markEntryS, heldEntryS; condition: small numbers. -/
import Derived.Test.YtbfnilfkhonpaaaDoorMark5
import Derived.Test.YtbfnilfkhonpaaaDoorEntry
namespace Go.Proofs.YtbfnilfkhonpaaaDoor
open Go.RowKit Go.Joins

/-- Six stores, one behind the other, into the cells from j on. -/
theorem six_stores (w : World) (f j : Nat) (v0 v1 v2 v3 v4 v5 : Value) (h0 : (w.cell? ⟨f, j, none⟩).isSome = true) (h1 : (w.cell? ⟨f, j + 1, none⟩).isSome = true) (h2 : (w.cell? ⟨f, j + 2, none⟩).isSome = true) (h3 : (w.cell? ⟨f, j + 3, none⟩).isSome = true) (h4 : (w.cell? ⟨f, j + 4, none⟩).isSome = true) (h5 : (w.cell? ⟨f, j + 5, none⟩).isSome = true) :
    ∃ W, W = (((((w.setCell ⟨f, j, none⟩ v0).setCell ⟨f, j + 1, none⟩ v1).setCell ⟨f, j + 2, none⟩ v2).setCell ⟨f, j + 3, none⟩ v3).setCell ⟨f, j + 4, none⟩ v4).setCell ⟨f, j + 5, none⟩ v5 ∧
      W.cell? ⟨f, j, none⟩ = some v0 ∧ W.cell? ⟨f, j + 1, none⟩ = some v1 ∧ W.cell? ⟨f, j + 2, none⟩ = some v2 ∧ W.cell? ⟨f, j + 3, none⟩ = some v3 ∧ W.cell? ⟨f, j + 4, none⟩ = some v4 ∧ W.cell? ⟨f, j + 5, none⟩ = some v5 ∧
      (∀ i, i < j ∨ j + 6 ≤ i → W.cell? ⟨f, i, none⟩ = w.cell? ⟨f, i, none⟩) ∧ OnlyBlock f w W := by
  refine ⟨_, rfl, ?_, ?_, ?_, ?_, ?_, ?_, fun i hi => ?_, (((((((OnlyBlock.refl f w).set _ _).set _ _).set _ _).set _ _).set _ _).set _ _)⟩
  · rw [World.cell?_setCell_other (h := by simp), World.cell?_setCell_other (h := by simp), World.cell?_setCell_other (h := by simp), World.cell?_setCell_other (h := by simp), World.cell?_setCell_other (h := by simp), World.cell?_setCell_same' _ _ _ h0]
  · rw [World.cell?_setCell_other (h := by simp), World.cell?_setCell_other (h := by simp), World.cell?_setCell_other (h := by simp), World.cell?_setCell_other (h := by simp), World.cell?_setCell_same' _ _ _ (by rw [World.cell?_setCell_other (h := by simp)]; exact h1)]
  · rw [World.cell?_setCell_other (h := by simp), World.cell?_setCell_other (h := by simp), World.cell?_setCell_other (h := by simp), World.cell?_setCell_same' _ _ _ (by rw [World.cell?_setCell_other (h := by simp), World.cell?_setCell_other (h := by simp)]; exact h2)]
  · rw [World.cell?_setCell_other (h := by simp), World.cell?_setCell_other (h := by simp), World.cell?_setCell_same' _ _ _ (by rw [World.cell?_setCell_other (h := by simp), World.cell?_setCell_other (h := by simp), World.cell?_setCell_other (h := by simp)]; exact h3)]
  · rw [World.cell?_setCell_other (h := by simp), World.cell?_setCell_same' _ _ _ (by rw [World.cell?_setCell_other (h := by simp), World.cell?_setCell_other (h := by simp), World.cell?_setCell_other (h := by simp), World.cell?_setCell_other (h := by simp)]; exact h4)]
  · rw [World.cell?_setCell_same' _ _ _ (by rw [World.cell?_setCell_other (h := by simp), World.cell?_setCell_other (h := by simp), World.cell?_setCell_other (h := by simp), World.cell?_setCell_other (h := by simp), World.cell?_setCell_other (h := by simp)]; exact h5)]
  · rw [World.cell?_setCell_other (h := by simp <;> omega), World.cell?_setCell_other (h := by simp <;> omega), World.cell?_setCell_other (h := by simp <;> omega), World.cell?_setCell_other (h := by simp <;> omega), World.cell?_setCell_other (h := by simp <;> omega), World.cell?_setCell_other (h := by simp <;> omega)]

set_option maxHeartbeats 4000000 in
theorem markEntryS_c (f n cap : Nat) (m : Int) (w : World) (hlc : n ≤ cap) (hm0 : 0 ≤ m) (hm1 : m ≤ 1099511627776) (hn : n ≤ 1099511627776) (hc : ∀ j, j < n * 6 → ∃ v, w.cell? ⟨f, j, none⟩ = some v) (hf : ∀ j, w.frozen? ⟨f, j, none⟩ = false) :
    Calls Tryd.prog 18 #[.slice (some ⟨f, 0, none⟩) n cap, .int .i64 m] w fun e w' => e = .returned (.int .i64 (m + ((n * 6 : Nat) : Int))) ∧ (∀ j, j < n * 6 → w'.cell? ⟨f, j, none⟩ = some (.int .i64 (m + j))) ∧ OnlyBlock f w w' := by
  have HC := Lib.hid hc
  have HF := Lib.hid hf
  clear hc hf
  go_enter Tryd.func18, Tryd.ntmps18
  go_wp2_with fail
  go_loopw [1, 5] (fun s i wr => ∃ k : Nat, k ≤ n ∧ i = .int .i64 k ∧ s = .int .i64 (m + ((k * 6 : Nat) : Int)) ∧ (∀ j, j < k * 6 → wr.cell? ⟨f, j, none⟩ = some (.int .i64 (m + j))) ∧ (∀ j, k * 6 ≤ j → wr.cell? ⟨f, j, none⟩ = w.cell? ⟨f, j, none⟩) ∧ OnlyBlock f w wr) (fun _ i _ => n - (intOf i).toNat)
  case atStart => exact ⟨0, Nat.zero_le _, rfl, by simp, fun j hj => absurd hj (by omega), fun _ _ => rfl, OnlyBlock.refl _ _⟩
  case round =>
    obtain ⟨k, hk, rfl, rfl, h1, h2, hob⟩ := hrel
    have H1 := Lib.hid h1
    have H2 := Lib.hid h2
    clear h1 h2
    generalize hK6 : k * 6 = k6 at *
    by_cases hlt : k < n
    · have hk1 : (k : Int) < (n : Int) := by omega
      have hk0 : (0 : Int) ≤ (k : Int) := by omega
      have hcell : ∀ i, i < 6 → ∃ v, wr.cell? ⟨f, k6 + i, none⟩ = some v := fun i hi => by
        obtain ⟨v, hv⟩ := HC.out (k6 + i) (by omega)
        exact ⟨v, (H2.out _ (by omega)).trans hv⟩
      obtain ⟨v0, c0⟩ := hcell 0 (by decide)
      obtain ⟨v1, c1⟩ := hcell 1 (by decide)
      obtain ⟨v2, c2⟩ := hcell 2 (by decide)
      obtain ⟨v3, c3⟩ := hcell 3 (by decide)
      obtain ⟨v4, c4⟩ := hcell 4 (by decide)
      obtain ⟨v5, c5⟩ := hcell 5 (by decide)
      rw [Nat.add_zero] at c0
      have ff : ∀ j, wr.frozen? ⟨f, j, none⟩ = false := fun j => (hob.frozen j).trans (HF.out j)
      have hw1 : IntKind.i64.wrap (m + (k6 : Int) + 1) = m + (k6 : Int) + 1 := IntWalk.i64_in _ ⟨by omega, by omega⟩
      have hw2 : IntKind.i64.wrap (m + (k6 : Int) + 1 + 1) = m + (k6 : Int) + 1 + 1 := IntWalk.i64_in _ ⟨by omega, by omega⟩
      have hw3 : IntKind.i64.wrap (m + (k6 : Int) + 1 + 1 + 1) = m + (k6 : Int) + 1 + 1 + 1 := IntWalk.i64_in _ ⟨by omega, by omega⟩
      have hw4 : IntKind.i64.wrap (m + (k6 : Int) + 1 + 1 + 1 + 1) = m + (k6 : Int) + 1 + 1 + 1 + 1 := IntWalk.i64_in _ ⟨by omega, by omega⟩
      have hw5 : IntKind.i64.wrap (m + (k6 : Int) + 1 + 1 + 1 + 1 + 1) = m + (k6 : Int) + 1 + 1 + 1 + 1 + 1 := IntWalk.i64_in _ ⟨by omega, by omega⟩
      have hw6 : IntKind.i64.wrap (m + (k6 : Int) + 1 + 1 + 1 + 1 + 1 + 1) = m + (k6 : Int) + 1 + 1 + 1 + 1 + 1 + 1 := IntWalk.i64_in _ ⟨by omega, by omega⟩
      obtain ⟨W, hW, d0, d1, d2, d3, d4, d5, dO, dB⟩ := six_stores wr f k6 (.int .i64 (m + (k6 : Int))) (.int .i64 (m + (k6 : Int) + 1)) (.int .i64 (m + (k6 : Int) + 1 + 1)) (.int .i64 (m + (k6 : Int) + 1 + 1 + 1)) (.int .i64 (m + (k6 : Int) + 1 + 1 + 1 + 1)) (.int .i64 (m + (k6 : Int) + 1 + 1 + 1 + 1 + 1)) (by rw [c0]; rfl) (by rw [c1]; rfl) (by rw [c2]; rfl) (by rw [c3]; rfl) (by rw [c4]; rfl) (by rw [c5]; rfl)
      have HW := Lib.hid hW
      have D := Lib.hid (And.intro d0 (And.intro d1 (And.intro d2 (And.intro d3 (And.intro d4 d5)))))
      have DO := Lib.hid dO
      clear hW d0 d1 d2 d3 d4 d5 dO hcell
      go_wp2_with fail
      go_roundw
      case rel =>
        rw [← HW.out]
        refine ⟨k + 1, by omega, by go_num, by go_num, fun j hj => ?_, fun j hj => ?_, hob.trans dB⟩
        · by_cases h6 : j < k6
          · exact (DO.out j (.inl h6)).trans (H1.out j h6)
          · obtain ⟨d0, d1, d2, d3, d4, d5⟩ := D.out
            rcases (show j = k6 ∨ j = k6 + 1 ∨ j = k6 + 2 ∨ j = k6 + 3 ∨ j = k6 + 4 ∨ j = k6 + 5 by omega) with rfl | rfl | rfl | rfl | rfl | rfl
            · exact d0
            · exact d1.trans (by go_num)
            · exact d2.trans (by go_num)
            · exact d3.trans (by go_num)
            · exact d4.trans (by go_num)
            · exact d5.trans (by go_num)
        · exact (DO.out j (.inr (by omega))).trans (H2.out j (by omega))
      case measure => simp [intOf]; omega
    · have hkk : n = k := by omega
      subst hkk
      subst hK6
      go_wp2_with fail
      go_ret
      exact ⟨rfl, H1.out, hob⟩

set_option maxHeartbeats 4000000 in
theorem heldEntryS_c (f n cap : Nat) (m : Int) (w : World) (hlc : n ≤ cap) (hm0 : 0 ≤ m) (hm1 : m ≤ 1099511627776) (hn : n ≤ 1099511627776) (hc : ∀ j, j < n * 6 → w.cell? ⟨f, j, none⟩ = some (.int .i64 (m + j))) :
    Calls Tryd.prog 19 #[.slice (some ⟨f, 0, none⟩) n cap, .int .i64 m] w fun e w' => e = .returned (.int .i64 (m + ((n * 6 : Nat) : Int))) ∧ w = w' := by
  have HC := Lib.hid hc
  clear hc
  go_enter Tryd.func19, Tryd.ntmps19
  go_wp2_with fail
  go_loop [1, 5] (fun s i => ∃ k : Nat, k ≤ n ∧ i = .int .i64 k ∧ s = .int .i64 (m + ((k * 6 : Nat) : Int))) (fun _ i => n - (intOf i).toNat)
  case atStart => exact ⟨0, Nat.zero_le _, rfl, by simp⟩
  case round =>
    obtain ⟨k, hk, rfl, rfl⟩ := hrel
    generalize hK6 : k * 6 = k6 at *
    by_cases hlt : k < n
    · have hk1 : (k : Int) < (n : Int) := by omega
      have hk0 : (0 : Int) ≤ (k : Int) := by omega
      have c0 := HC.out k6 (by omega)
      have c1 : w.cell? ⟨f, k6 + 1, none⟩ = some (.int .i64 (m + (k6 : Int) + 1)) := (HC.out (k6 + 1) (by omega)).trans (by go_num)
      have c2 : w.cell? ⟨f, k6 + 2, none⟩ = some (.int .i64 (m + (k6 : Int) + 1 + 1)) := (HC.out (k6 + 2) (by omega)).trans (by go_num)
      have c3 : w.cell? ⟨f, k6 + 3, none⟩ = some (.int .i64 (m + (k6 : Int) + 1 + 1 + 1)) := (HC.out (k6 + 3) (by omega)).trans (by go_num)
      have c4 : w.cell? ⟨f, k6 + 4, none⟩ = some (.int .i64 (m + (k6 : Int) + 1 + 1 + 1 + 1)) := (HC.out (k6 + 4) (by omega)).trans (by go_num)
      have c5 : w.cell? ⟨f, k6 + 5, none⟩ = some (.int .i64 (m + (k6 : Int) + 1 + 1 + 1 + 1 + 1)) := (HC.out (k6 + 5) (by omega)).trans (by go_num)
      have hw1 : IntKind.i64.wrap (m + (k6 : Int) + 1) = m + (k6 : Int) + 1 := IntWalk.i64_in _ ⟨by omega, by omega⟩
      have hw2 : IntKind.i64.wrap (m + (k6 : Int) + 1 + 1) = m + (k6 : Int) + 1 + 1 := IntWalk.i64_in _ ⟨by omega, by omega⟩
      have hw3 : IntKind.i64.wrap (m + (k6 : Int) + 1 + 1 + 1) = m + (k6 : Int) + 1 + 1 + 1 := IntWalk.i64_in _ ⟨by omega, by omega⟩
      have hw4 : IntKind.i64.wrap (m + (k6 : Int) + 1 + 1 + 1 + 1) = m + (k6 : Int) + 1 + 1 + 1 + 1 := IntWalk.i64_in _ ⟨by omega, by omega⟩
      have hw5 : IntKind.i64.wrap (m + (k6 : Int) + 1 + 1 + 1 + 1 + 1) = m + (k6 : Int) + 1 + 1 + 1 + 1 + 1 := IntWalk.i64_in _ ⟨by omega, by omega⟩
      have hw6 : IntKind.i64.wrap (m + (k6 : Int) + 1 + 1 + 1 + 1 + 1 + 1) = m + (k6 : Int) + 1 + 1 + 1 + 1 + 1 + 1 := IntWalk.i64_in _ ⟨by omega, by omega⟩
      go_wp2_with fail
      go_round
      case rel => exact ⟨k + 1, by omega, by go_num, by go_num⟩
      case measure => simp [intOf]; omega
    · have hkk : n = k := by omega
      subst hkk
      subst hK6
      go_wp2_with fail
      go_ret
      exact ⟨rfl, rfl⟩

set_option maxHeartbeats 1000000 in
theorem markEntryS_0 (a : Option Addr) (cap : Nat) (m : Int) (w : World) : Calls Tryd.prog 18 #[.slice a 0 cap, .int .i64 m] w fun e w' => e = .returned (.int .i64 m) ∧ w = w' := by
  go_enter Tryd.func18, Tryd.ntmps18
  go_wp2_with fail
  refine wp_loop_rounds 1 ?_
  rw [rounds_succ]
  go_wp2_with fail
  go_ret
  exact ⟨rfl, rfl⟩
set_option maxHeartbeats 1000000 in
theorem heldEntryS_0 (a : Option Addr) (cap : Nat) (m : Int) (w : World) : Calls Tryd.prog 19 #[.slice a 0 cap, .int .i64 m] w fun e w' => e = .returned (.int .i64 m) ∧ w = w' := by
  go_enter Tryd.func19, Tryd.ntmps19
  go_wp2_with fail
  refine wp_loop_rounds 1 ?_
  rw [rounds_succ]
  go_wp2_with fail
  go_ret
  exact ⟨rfl, rfl⟩

/-- A row marked. -/
theorem markEntrys_r {B n : Nat} {a : Option Addr} {zs : List En} (m : Int) (w : World) (h : Row w B 44 a n 6 En.cs zs) (hl : zs.length = n) (hm0 : 0 ≤ m) (hm1 : m ≤ 1099511627776) (hn : n ≤ 1099511627776) :
    Calls Tryd.prog 18 #[.slice a n n, .int .i64 m] w fun e w' => e = .returned (.int .i64 (m + ((n * 6 : Nat) : Int))) ∧ MarkedRow a n 6 m w w' := by
  by_cases hp : 0 < n
  · obtain ⟨g, rfl, hg, hc, hf⟩ := h.cellsOf hl six_len hp
    refine (markEntryS_c g n n m w (Nat.le_refl _) hm0 hm1 hn hc hf).mono fun e w' ⟨he, hm, ho⟩ => ⟨he, fun g' hg' j hj => ?_, ?_, ho.size⟩
    · rw [hg] at hg'
      injection hg' with hg'
      subst hg'
      exact hm j hj
    · rw [hg]
      exact ho.grownBy
  · obtain rfl : n = 0 := by omega
    refine (markEntryS_0 a 0 m w).mono fun e w' ⟨he, hw⟩ => ?_
    subst hw
    exact ⟨by simpa using he, fun g hg => by simp [rowBlk] at hg, World.grownBy.refl w _, rfl⟩
theorem heldEntrys_r {B n : Nat} {a : Option Addr} {zs : List En} {w0 : World} (m : Int) (w : World) (h : Row w0 B 44 a n 6 En.cs zs) (hl : zs.length = n) (hc : ∀ g, rowBlk a n = some g → ∀ j, j < n * 6 → w.cell? ⟨g, j, none⟩ = some (.int .i64 (m + j))) (hm0 : 0 ≤ m) (hm1 : m ≤ 1099511627776) (hn : n ≤ 1099511627776) :
    Calls Tryd.prog 19 #[.slice a n n, .int .i64 m] w fun e w' => e = .returned (.int .i64 (m + ((n * 6 : Nat) : Int))) ∧ w = w' := by
  by_cases hp : 0 < n
  · obtain ⟨g, rfl, hg, _, _⟩ := h.cellsOf hl six_len hp
    exact heldEntryS_c g n n m w (Nat.le_refl _) hm0 hm1 hn (hc g hg)
  · obtain rfl : n = 0 := by omega
    refine (heldEntryS_0 a 0 m w).mono fun e w' ⟨he, hw⟩ => ⟨by simpa using he, hw⟩
end Go.Proofs.YtbfnilfkhonpaaaDoor
