/- markWorld, heldWorld at new worlds; condition: the worlds as new. -/
import Derived.Test.YtgdhieffjflejaaWorldLaw
import Derived.Test.YtgdhieffjflejaaMark5
set_option linter.unusedSimpArgs false
set_option linter.unusedVariables false
namespace Go.Proofs.Ytgdhieffjflejaa
open Go.RowKit Go.Joins

/-- Four stores, one behind the other, into the cells from j on. -/
theorem four_stores (w : World) (f j : Nat) (v0 v1 v2 v3 : Value) (h0 : (w.cell? ⟨f, j, none⟩).isSome = true) (h1 : (w.cell? ⟨f, j + 1, none⟩).isSome = true) (h2 : (w.cell? ⟨f, j + 2, none⟩).isSome = true) (h3 : (w.cell? ⟨f, j + 3, none⟩).isSome = true) :
    ∃ W, W = (((w.setCell ⟨f, j, none⟩ v0).setCell ⟨f, j + 1, none⟩ v1).setCell ⟨f, j + 2, none⟩ v2).setCell ⟨f, j + 3, none⟩ v3 ∧
      W.cell? ⟨f, j, none⟩ = some v0 ∧ W.cell? ⟨f, j + 1, none⟩ = some v1 ∧ W.cell? ⟨f, j + 2, none⟩ = some v2 ∧ W.cell? ⟨f, j + 3, none⟩ = some v3 ∧
      (∀ i, i < j ∨ j + 4 ≤ i → W.cell? ⟨f, i, none⟩ = w.cell? ⟨f, i, none⟩) ∧ OnlyBlock f w W := by
  refine ⟨_, rfl, ?_, ?_, ?_, ?_, fun i hi => ?_, (((((OnlyBlock.refl f w).set _ _).set _ _).set _ _).set _ _)⟩
  · rw [World.cell?_setCell_other (h := by simp), World.cell?_setCell_other (h := by simp), World.cell?_setCell_other (h := by simp), World.cell?_setCell_same' _ _ _ h0]
  · rw [World.cell?_setCell_other (h := by simp), World.cell?_setCell_other (h := by simp), World.cell?_setCell_same' _ _ _ (by rw [World.cell?_setCell_other (h := by simp)]; exact h1)]
  · rw [World.cell?_setCell_other (h := by simp), World.cell?_setCell_same' _ _ _ (by rw [World.cell?_setCell_other (h := by simp), World.cell?_setCell_other (h := by simp)]; exact h2)]
  · rw [World.cell?_setCell_same' _ _ _ (by rw [World.cell?_setCell_other (h := by simp), World.cell?_setCell_other (h := by simp), World.cell?_setCell_other (h := by simp)]; exact h3)]
  · rw [World.cell?_setCell_other (h := by simp <;> omega), World.cell?_setCell_other (h := by simp <;> omega), World.cell?_setCell_other (h := by simp <;> omega), World.cell?_setCell_other (h := by simp <;> omega)]

/-- The four marks of keeper q, and the lists that are none. -/
structure RepMarked (w : World) (f q : Nat) : Prop where
  c0 : w.cell? ⟨f, q * 7, none⟩ = some (.int .i64 (1 + ((q * 4 : Nat) : Int)))
  c1 : w.cell? ⟨f, q * 7 + 1, none⟩ = some (.int .i64 (1 + ((q * 4 : Nat) : Int) + 1))
  c2 : w.cell? ⟨f, q * 7 + 2, none⟩ = some (.bool ((1 + ((q * 4 : Nat) : Int) + 1 + 1).tmod 3 == 0))
  c3 : w.cell? ⟨f, q * 7 + 3, none⟩ = some (.int .i64 (1 + ((q * 4 : Nat) : Int) + 1 + 1 + 1))
structure RepLists (w : World) (f q : Nat) : Prop where
  c4 : w.cell? ⟨f, q * 7 + 4, none⟩ = some (.slice none 0 0)
  c5 : w.cell? ⟨f, q * 7 + 5, none⟩ = some (.slice none 0 0)
  c6 : w.cell? ⟨f, q * 7 + 6, none⟩ = some (.slice none 0 0)

set_option maxRecDepth 100000 in
set_option maxHeartbeats 600000 in
theorem markRepS_c (f n cap : Nat) (w : World) (hlc : n ≤ cap) (hn : n ≤ 4) (hc : ∀ j, j < n * 7 → ∃ v, w.cell? ⟨f, j, none⟩ = some v) (hl : ∀ q, q < n → RepLists w f q) (hf : ∀ j, w.frozen? ⟨f, j, none⟩ = false) :
    Calls Try.prog 48 #[.slice (some ⟨f, 0, none⟩) n cap, .int .i64 1] w fun e w' => e = .returned (.int .i64 (1 + ((n * 4 : Nat) : Int))) ∧ (∀ q, q < n → RepMarked w' f q ∧ RepLists w' f q) ∧ OnlyBlock f w w' := by
  have HC := Lib.hid hc
  have HF := Lib.hid hf
  have HL := Lib.hid hl
  clear hc hf hl
  go_enter Try.func48, Try.ntmps48
  go_wp2_with fail
  go_loopw [1, 5] (fun s i wr => ∃ k : Nat, k ≤ n ∧ i = .int .i64 k ∧ s = .int .i64 (1 + ((k * 4 : Nat) : Int)) ∧ (∀ q, q < k → RepMarked wr f q ∧ RepLists wr f q) ∧ (∀ j, k * 7 ≤ j → wr.cell? ⟨f, j, none⟩ = w.cell? ⟨f, j, none⟩) ∧ OnlyBlock f w wr) (fun _ i _ => n - (intOf i).toNat)
  case atStart => exact ⟨0, Nat.zero_le _, rfl, by simp, fun q hq => absurd hq (by omega), fun _ _ => rfl, OnlyBlock.refl _ _⟩
  case round =>
    obtain ⟨k, hk, rfl, rfl, h1, h2, hob⟩ := hrel
    have H1 := Lib.hid h1
    have H2 := Lib.hid h2
    clear h1 h2
    by_cases hlt : k < n
    · have hk1 : (k : Int) < (n : Int) := by omega
      have hk0 : (0 : Int) ≤ (k : Int) := by omega
      have hcell : ∀ i, i < 7 → ∃ v, wr.cell? ⟨f, k * 7 + i, none⟩ = some v := fun i hi => by
        obtain ⟨v, hv⟩ := HC.out (k * 7 + i) (by omega)
        exact ⟨v, (H2.out _ (by omega)).trans hv⟩
      obtain ⟨v0, c0⟩ := hcell 0 (by decide)
      obtain ⟨v1, c1⟩ := hcell 1 (by decide)
      obtain ⟨v2, c2⟩ := hcell 2 (by decide)
      obtain ⟨v3, c3⟩ := hcell 3 (by decide)
      rw [Nat.add_zero] at c0
      have e4 : wr.cell? ⟨f, k * 7 + 4, none⟩ = some (.slice none 0 0) := (H2.out _ (by omega)).trans (HL.out k hlt).c4
      have e5 : wr.cell? ⟨f, k * 7 + 5, none⟩ = some (.slice none 0 0) := (H2.out _ (by omega)).trans (HL.out k hlt).c5
      have e6 : wr.cell? ⟨f, k * 7 + 6, none⟩ = some (.slice none 0 0) := (H2.out _ (by omega)).trans (HL.out k hlt).c6
      have ff : ∀ j, wr.frozen? ⟨f, j, none⟩ = false := fun j => (hob.frozen j).trans (HF.out j)
      have HM := Lib.hid (show ∀ x : Nat, k * 4 = x → 1 + ((x : Nat) : Int) + 1 + 1 + 1 + 1 = 1 + (((k + 1) * 4 : Nat) : Int) from fun x hx => by omega)
      obtain ⟨k4, hk4⟩ : ∃ k4, k * 4 = k4 := ⟨_, rfl⟩
      have HK4 := Lib.hid hk4
      have hb4 : k4 ≤ 16 := by omega
      rw [hk4]
      obtain ⟨k7, hk7⟩ : ∃ k7, k * 7 = k7 := ⟨_, rfl⟩
      have HK7 := Lib.hid hk7
      rw [hk7] at c0 c1 c2 c3 e4 e5 e6
      have hw1 : IntKind.i64.wrap (1 + (k4 : Int) + 1) = 1 + (k4 : Int) + 1 := IntWalk.i64_in _ ⟨by omega, by omega⟩
      have hw2 : IntKind.i64.wrap (1 + (k4 : Int) + 1 + 1) = 1 + (k4 : Int) + 1 + 1 := IntWalk.i64_in _ ⟨by omega, by omega⟩
      have hw3 : IntKind.i64.wrap (1 + (k4 : Int) + 1 + 1 + 1) = 1 + (k4 : Int) + 1 + 1 + 1 := IntWalk.i64_in _ ⟨by omega, by omega⟩
      have hw4 : IntKind.i64.wrap (1 + (k4 : Int) + 1 + 1 + 1 + 1) = 1 + (k4 : Int) + 1 + 1 + 1 + 1 := IntWalk.i64_in _ ⟨by omega, by omega⟩
      obtain ⟨r, hr, hr0, hr3⟩ : ∃ r : Int, (1 + (k4 : Int) + 1 + 1).tmod 3 = r ∧ 0 ≤ r ∧ r < 3 := ⟨_, rfl, by rw [Int.tmod_eq_emod_of_nonneg (by omega)]; omega, by rw [Int.tmod_eq_emod_of_nonneg (by omega)]; omega⟩
      have HR := Lib.hid hr
      have hwr : IntKind.i64.wrap r = r := IntWalk.i64_in _ ⟨by omega, by omega⟩
      obtain ⟨W, hW, d0, d1, d2, d3, dO, dB⟩ := four_stores wr f k7 (.int .i64 (1 + (k4 : Int))) (.int .i64 (1 + (k4 : Int) + 1)) (.bool (r == 0)) (.int .i64 (1 + (k4 : Int) + 1 + 1 + 1)) (by rw [c0]; rfl) (by rw [c1]; rfl) (by rw [c2]; rfl) (by rw [c3]; rfl)
      have HW := Lib.hid hW
      have D := Lib.hid (And.intro d0 (And.intro d1 (And.intro d2 d3)))
      have DO := Lib.hid dO
      have E4 := (dO (k7 + 4) (by omega)).trans e4
      have E5 := (dO (k7 + 5) (by omega)).trans e5
      have E6 := (dO (k7 + 6) (by omega)).trans e6
      clear hW d0 d1 d2 d3 dO hcell hk4
      go_wp2_with (first
        | (go_at_call 71; refine (markClaimS_nil _ _).mono ?_; rintro e w' ⟨rfl, rfl⟩)
        | (go_at_call 49; refine (markMsgS_nil _ _).mono ?_; rintro e w' ⟨rfl, rfl⟩))
      go_roundw
      case rel =>
        rw [← HW.out]
        refine ⟨k + 1, by omega, by go_num, by rw [← HM.out k4 HK4.out], fun q hq => ?_, fun j hj => (DO.out j (.inr (by have := HK7.out; omega))).trans (H2.out j (by omega)), hob.trans dB⟩
        by_cases hqk : q < k
        · obtain ⟨m, l⟩ := H1.out q hqk
          have h7 := HK7.out
          exact ⟨⟨(DO.out _ (.inl (by omega))).trans m.c0, (DO.out _ (.inl (by omega))).trans m.c1, (DO.out _ (.inl (by omega))).trans m.c2, (DO.out _ (.inl (by omega))).trans m.c3⟩, ⟨(DO.out _ (.inl (by omega))).trans l.c4, (DO.out _ (.inl (by omega))).trans l.c5, (DO.out _ (.inl (by omega))).trans l.c6⟩⟩
        · obtain rfl : q = k := by omega
          obtain ⟨d0, d1, d2, d3⟩ := D.out
          have h7 := HK7.out
          have h4 := HK4.out
          refine ⟨⟨?_, ?_, ?_, ?_⟩, ⟨?_, ?_, ?_⟩⟩
          · rw [h7, h4]; exact d0
          · rw [h7, h4]; exact d1
          · rw [h7, h4, HR.out]; exact d2
          · rw [h7, h4]; exact d3
          · rw [h7]; exact E4
          · rw [h7]; exact E5
          · rw [h7]; exact E6
      case measure => simp [intOf]; omega
    · have hkk : n = k := by omega
      subst hkk
      go_wp2_with fail
      go_ret
      exact ⟨rfl, H1.out, hob⟩

set_option maxRecDepth 100000 in
set_option maxHeartbeats 600000 in
theorem heldRepS_c (f n cap : Nat) (w : World) (hlc : n ≤ cap) (hn : n ≤ 4) (hm : ∀ q, q < n → RepMarked w f q ∧ RepLists w f q) :
    Calls Try.prog 50 #[.slice (some ⟨f, 0, none⟩) n cap, .int .i64 1] w fun e w' => e = .returned (.int .i64 (1 + ((n * 4 : Nat) : Int))) ∧ w = w' := by
  have HC := Lib.hid hm
  clear hm
  go_enter Try.func50, Try.ntmps50
  go_wp2_with fail
  go_loop [1, 5] (fun s i => ∃ k : Nat, k ≤ n ∧ i = .int .i64 k ∧ s = .int .i64 (1 + ((k * 4 : Nat) : Int))) (fun _ i => n - (intOf i).toNat)
  case atStart => exact ⟨0, Nat.zero_le _, rfl, by simp⟩
  case round =>
    obtain ⟨k, hk, rfl, rfl⟩ := hrel
    by_cases hlt : k < n
    · have hk1 : (k : Int) < (n : Int) := by omega
      have hk0 : (0 : Int) ≤ (k : Int) := by omega
      obtain ⟨⟨c0, c1, c2, c3⟩, ⟨e4, e5, e6⟩⟩ := HC.out k hlt
      have HM := Lib.hid (show ∀ x : Nat, k * 4 = x → 1 + ((x : Nat) : Int) + 1 + 1 + 1 + 1 = 1 + (((k + 1) * 4 : Nat) : Int) from fun x hx => by omega)
      obtain ⟨k4, hk4⟩ : ∃ k4, k * 4 = k4 := ⟨_, rfl⟩
      have HK4 := Lib.hid hk4
      have hb4 : k4 ≤ 16 := by omega
      rw [hk4] at c0 c1 c2 c3 ⊢
      obtain ⟨k7, hk7⟩ : ∃ k7, k * 7 = k7 := ⟨_, rfl⟩
      rw [hk7] at c0 c1 c2 c3 e4 e5 e6
      have hw1 : IntKind.i64.wrap (1 + (k4 : Int) + 1) = 1 + (k4 : Int) + 1 := IntWalk.i64_in _ ⟨by omega, by omega⟩
      have hw2 : IntKind.i64.wrap (1 + (k4 : Int) + 1 + 1) = 1 + (k4 : Int) + 1 + 1 := IntWalk.i64_in _ ⟨by omega, by omega⟩
      have hw3 : IntKind.i64.wrap (1 + (k4 : Int) + 1 + 1 + 1) = 1 + (k4 : Int) + 1 + 1 + 1 := IntWalk.i64_in _ ⟨by omega, by omega⟩
      have hw4 : IntKind.i64.wrap (1 + (k4 : Int) + 1 + 1 + 1 + 1) = 1 + (k4 : Int) + 1 + 1 + 1 + 1 := IntWalk.i64_in _ ⟨by omega, by omega⟩
      have hng : ¬ (1 + (k4 : Int) + 1 + 1 + 1 + 1) < 0 := by omega
      obtain ⟨r, hr, hr0, hr3⟩ : ∃ r : Int, (1 + (k4 : Int) + 1 + 1).tmod 3 = r ∧ 0 ≤ r ∧ r < 3 := ⟨_, rfl, by rw [Int.tmod_eq_emod_of_nonneg (by omega)]; omega, by rw [Int.tmod_eq_emod_of_nonneg (by omega)]; omega⟩
      rw [hr] at c2
      have hwr : IntKind.i64.wrap r = r := IntWalk.i64_in _ ⟨by omega, by omega⟩
      obtain ⟨bb, hbb⟩ : ∃ bb, (r == 0) = bb := ⟨_, rfl⟩
      rw [hbb] at c2
      clear hk4
      go_wp2_with (first
        | (go_at_call 73; refine (heldClaimS_nil _ _).mono ?_; rintro e w' ⟨rfl, rfl⟩)
        | (go_at_call 51; refine (heldMsgS_nil _ _).mono ?_; rintro e w' ⟨rfl, rfl⟩))
      go_round
      case rel => exact ⟨k + 1, by omega, by go_num, by rw [← HM.out k4 HK4.out]⟩
      case measure => simp [intOf]; omega
    · have hkk : n = k := by omega
      subst hkk
      go_wp2_with fail
      go_ret
      exact ⟨rfl, rfl⟩

set_option maxHeartbeats 1000000 in
theorem markRepS_0 (a : Option Addr) (cap : Nat) (m : Int) (w : World) : Calls Try.prog 48 #[.slice a 0 cap, .int .i64 m] w fun e w' => e = .returned (.int .i64 m) ∧ w = w' := by
  go_enter Try.func48, Try.ntmps48
  go_wp2_with fail
  refine wp_loop_rounds 1 ?_
  rw [rounds_succ]
  go_wp2_with fail
  go_ret
  exact ⟨rfl, rfl⟩
set_option maxHeartbeats 1000000 in
theorem heldRepS_0 (a : Option Addr) (cap : Nat) (m : Int) (w : World) : Calls Try.prog 50 #[.slice a 0 cap, .int .i64 m] w fun e w' => e = .returned (.int .i64 m) ∧ w = w' := by
  go_enter Try.func50, Try.ntmps50
  go_wp2_with fail
  refine wp_loop_rounds 1 ?_
  rw [rounds_succ]
  go_wp2_with fail
  go_ret
  exact ⟨rfl, rfl⟩

/-- All keepers of a list are marked. -/
def AllMarked (w : World) (a : Option Addr) (n : Nat) : Prop := ∀ g, rowBlk a n = some g → g < w.heap.size ∧ ∀ q, q < n → RepMarked w g q ∧ RepLists w g q
theorem AllMarked.below {w w' : World} {a : Option Addr} {n : Nat} (h : AllMarked w a n) (b : Below w.heap.size w w') : AllMarked w' a n := fun g hg => by
  obtain ⟨hl, h1⟩ := h g hg
  have hc : ∀ o, w'.cell? ⟨g, o, none⟩ = w.cell? ⟨g, o, none⟩ := fun o => b.cell (p := ⟨g, o, none⟩) hl
  refine ⟨Nat.lt_of_lt_of_le hl b.size, fun q hq => ?_⟩
  obtain ⟨m, l⟩ := h1 q hq
  exact ⟨⟨(hc _).trans m.c0, (hc _).trans m.c1, (hc _).trans m.c2, (hc _).trans m.c3⟩, ⟨(hc _).trans l.c4, (hc _).trans l.c5, (hc _).trans l.c6⟩⟩
theorem markReps_r {B n : Nat} {a : Option Addr} {zs : List Rp} (w : World) (h : Row w B 78 a n 7 Rp.cs zs) (hl : zs.length = n) (hn : n ≤ 4) :
    Calls Try.prog 48 #[.slice a n n, .int .i64 1] w fun e w' => e = .returned (.int .i64 (1 + ((n * 4 : Nat) : Int))) ∧ AllMarked w' a n ∧ w.grownBy w' (rowBlk a n) ∧ w'.heap.size = w.heap.size := by
  by_cases hp : 0 < n
  · have hb := fun g (hg : rowBlk a n = some g) => (h.blk hg).2
    obtain ⟨g, rfl, hg, hc, hf⟩ := h.cellsOf hl seven_len hp
    have hr := h.rows seven_len
    have hL : ∀ q, q < n → RepLists w g q := fun q hq => by
      obtain ⟨b0, o0, hab, hl0, hc0⟩ := hr q (by omega)
      injection hab with hab
      injection hab with h1 h2
      subst h1 h2
      have e4 := hc0 4 (by decide)
      have e5 := hc0 5 (by decide)
      have e6 := hc0 6 (by decide)
      rw [Nat.zero_add] at e4 e5 e6
      exact ⟨e4, e5, e6⟩
    refine (markRepS_c g n n w (Nat.le_refl _) hn hc hL hf).mono fun e w' ⟨he, hm, ho⟩ => ⟨he, fun g' hg' => ?_, ?_, ho.size⟩
    · rw [hg] at hg'
      injection hg' with hg'
      subst hg'
      exact ⟨by have := hb _ hg; have := ho.size; omega, hm⟩
    · rw [hg]
      exact ho.grownBy
  · obtain rfl : n = 0 := by omega
    refine (markRepS_0 a 0 1 w).mono fun e w' ⟨he, hw⟩ => ?_
    subst hw
    exact ⟨by simpa using he, fun g hg => by simp [rowBlk] at hg, World.grownBy.refl w _, rfl⟩
theorem heldReps_r {B n : Nat} {a : Option Addr} {zs : List Rp} {w0 : World} (w : World) (h : Row w0 B 78 a n 7 Rp.cs zs) (hl : zs.length = n) (hn : n ≤ 4) (hm : AllMarked w a n) :
    Calls Try.prog 50 #[.slice a n n, .int .i64 1] w fun e w' => e = .returned (.int .i64 (1 + ((n * 4 : Nat) : Int))) ∧ w = w' := by
  by_cases hp : 0 < n
  · obtain ⟨g, rfl, hg, _, _⟩ := h.cellsOf hl seven_len hp
    exact heldRepS_c g n n w (Nat.le_refl _) hn (hm g hg).2
  · obtain rfl : n = 0 := by omega
    refine (heldRepS_0 a 0 1 w).mono fun e w' ⟨he, hw⟩ => ⟨by simpa using he, hw⟩
end Go.Proofs.Ytgdhieffjflejaa
