/- Contracts of markReqS, markEntS, heldReqS, heldEntS; marks over rows of the program's own; condition: small numbers. -/
import Derived.Test.YtofedboeggdkaaaMark
import Derived.Test.YtofedboeggdkaaaClone
namespace Go.Proofs.Ytofedboeggdkaaa
open Go.RowKit Go.Joins

/-- Five stores, one behind the other, into the cells from j on. -/
theorem five_stores (w : World) (f j : Nat) (v0 v1 v2 v3 v4 : Value) (h0 : (w.cell? ⟨f, j, none⟩).isSome = true) (h1 : (w.cell? ⟨f, j + 1, none⟩).isSome = true) (h2 : (w.cell? ⟨f, j + 2, none⟩).isSome = true) (h3 : (w.cell? ⟨f, j + 3, none⟩).isSome = true) (h4 : (w.cell? ⟨f, j + 4, none⟩).isSome = true) :
    ∃ W, W = ((((w.setCell ⟨f, j, none⟩ v0).setCell ⟨f, j + 1, none⟩ v1).setCell ⟨f, j + 2, none⟩ v2).setCell ⟨f, j + 3, none⟩ v3).setCell ⟨f, j + 4, none⟩ v4 ∧
      W.cell? ⟨f, j, none⟩ = some v0 ∧ W.cell? ⟨f, j + 1, none⟩ = some v1 ∧ W.cell? ⟨f, j + 2, none⟩ = some v2 ∧ W.cell? ⟨f, j + 3, none⟩ = some v3 ∧ W.cell? ⟨f, j + 4, none⟩ = some v4 ∧
      (∀ i, i < j ∨ j + 5 ≤ i → W.cell? ⟨f, i, none⟩ = w.cell? ⟨f, i, none⟩) ∧ OnlyBlock f w W := by
  refine ⟨_, rfl, ?_, ?_, ?_, ?_, ?_, fun i hi => ?_, ((((((OnlyBlock.refl f w).set _ _).set _ _).set _ _).set _ _).set _ _)⟩
  · rw [World.cell?_setCell_other (h := by simp), World.cell?_setCell_other (h := by simp), World.cell?_setCell_other (h := by simp), World.cell?_setCell_other (h := by simp), World.cell?_setCell_same' _ _ _ h0]
  · rw [World.cell?_setCell_other (h := by simp), World.cell?_setCell_other (h := by simp), World.cell?_setCell_other (h := by simp), World.cell?_setCell_same' _ _ _ (by rw [World.cell?_setCell_other (h := by simp)]; exact h1)]
  · rw [World.cell?_setCell_other (h := by simp), World.cell?_setCell_other (h := by simp), World.cell?_setCell_same' _ _ _ (by rw [World.cell?_setCell_other (h := by simp), World.cell?_setCell_other (h := by simp)]; exact h2)]
  · rw [World.cell?_setCell_other (h := by simp), World.cell?_setCell_same' _ _ _ (by rw [World.cell?_setCell_other (h := by simp), World.cell?_setCell_other (h := by simp), World.cell?_setCell_other (h := by simp)]; exact h3)]
  · rw [World.cell?_setCell_same' _ _ _ (by rw [World.cell?_setCell_other (h := by simp), World.cell?_setCell_other (h := by simp), World.cell?_setCell_other (h := by simp), World.cell?_setCell_other (h := by simp)]; exact h4)]
  · rw [World.cell?_setCell_other (h := by simp <;> omega), World.cell?_setCell_other (h := by simp <;> omega), World.cell?_setCell_other (h := by simp <;> omega), World.cell?_setCell_other (h := by simp <;> omega), World.cell?_setCell_other (h := by simp <;> omega)]
theorem OnlyBlock.trans {f : Nat} {a b c : World} (h : OnlyBlock f a b) (k : OnlyBlock f b c) : OnlyBlock f a c :=
  ⟨fun x hx => (k.others x hx).trans (h.others x hx), k.size.trans h.size, fun j => (k.frozen j).trans (h.frozen j), h.below.trans k.below⟩

/-- A row's cells, numbered from m on; nothing else has turned. -/
structure MarkedRow (a : Option Addr) (n k : Nat) (m : Int) (w w' : World) : Prop where
  cells : ∀ g, rowBlk a n = some g → ∀ j, j < n * k → w'.cell? ⟨g, j, none⟩ = some (.int .i64 (m + j))
  grown : w.grownBy w' (rowBlk a n)
  size : w'.heap.size = w.heap.size
theorem OnlyBlock.grownBy {g : Nat} {w w' : World} (h : OnlyBlock g w w') : w.grownBy w' (some g) :=
  ⟨h.below.os, h.below.tape, h.below.output, Nat.le_of_eq h.size.symm, fun b _ hb => h.others b (fun e => hb (by rw [e]))⟩
theorem Row.cellsOf {α : Type} {w : World} {B e n k : Nat} {a : Option Addr} {R : α → List Value} {zs : List α} (h : Row w B e a n k R zs) (hn : zs.length = n) (hR : ∀ z, (R z).length = k) (hp : 0 < n) :
    ∃ g, a = some ⟨g, 0, none⟩ ∧ rowBlk a n = some g ∧ (∀ j, j < n * k → ∃ v, w.cell? ⟨g, j, none⟩ = some v) ∧ ∀ j, w.frozen? ⟨g, j, none⟩ = false := by
  obtain ⟨g, cur, rfl, h2, h3, h4, h5⟩ := h.own hp
  refine ⟨g, rfl, by simp [rowBlk]; omega, fun j hj => ⟨_, (cell_of_block h3 j).trans (Array.getElem?_eq_getElem (by omega))⟩, fun j => unfrozen_of_block h3 j⟩


set_option maxHeartbeats 4000000 in
theorem markReqS_c (f n cap : Nat) (m : Int) (w : World) (hlc : n ≤ cap) (hm0 : 0 ≤ m) (hm1 : m ≤ 1099511627776) (hn : n ≤ 1099511627776) (hc : ∀ j, j < n * 5 → ∃ v, w.cell? ⟨f, j, none⟩ = some v) (hf : ∀ j, w.frozen? ⟨f, j, none⟩ = false) :
    Calls Try.prog 70 #[.slice (some ⟨f, 0, none⟩) n cap, .int .i64 m] w fun e w' => e = .returned (.int .i64 (m + ((n * 5 : Nat) : Int))) ∧ (∀ j, j < n * 5 → w'.cell? ⟨f, j, none⟩ = some (.int .i64 (m + j))) ∧ OnlyBlock f w w' := by
  have HC := Lib.hid hc
  have HF := Lib.hid hf
  clear hc hf
  go_enter Try.func70, Try.ntmps70
  go_wp2_with fail
  go_loopw [1, 5] (fun s i wr => ∃ k : Nat, k ≤ n ∧ i = .int .i64 k ∧ s = .int .i64 (m + ((k * 5 : Nat) : Int)) ∧ (∀ j, j < k * 5 → wr.cell? ⟨f, j, none⟩ = some (.int .i64 (m + j))) ∧ (∀ j, k * 5 ≤ j → wr.cell? ⟨f, j, none⟩ = w.cell? ⟨f, j, none⟩) ∧ OnlyBlock f w wr) (fun _ i _ => n - (intOf i).toNat)
  case atStart => exact ⟨0, Nat.zero_le _, rfl, by simp, fun j hj => absurd hj (by omega), fun _ _ => rfl, OnlyBlock.refl _ _⟩
  case round =>
    obtain ⟨k, hk, rfl, rfl, h1, h2, hob⟩ := hrel
    have H1 := Lib.hid h1
    have H2 := Lib.hid h2
    clear h1 h2
    generalize hK5 : k * 5 = k5 at *
    by_cases hlt : k < n
    · have hk1 : (k : Int) < (n : Int) := by omega
      have hk0 : (0 : Int) ≤ (k : Int) := by omega
      have hcell : ∀ i, i < 5 → ∃ v, wr.cell? ⟨f, k5 + i, none⟩ = some v := fun i hi => by
        obtain ⟨v, hv⟩ := HC.out (k5 + i) (by omega)
        exact ⟨v, (H2.out _ (by omega)).trans hv⟩
      obtain ⟨v0, c0⟩ := hcell 0 (by decide)
      obtain ⟨v1, c1⟩ := hcell 1 (by decide)
      obtain ⟨v2, c2⟩ := hcell 2 (by decide)
      obtain ⟨v3, c3⟩ := hcell 3 (by decide)
      obtain ⟨v4, c4⟩ := hcell 4 (by decide)
      rw [Nat.add_zero] at c0
      have ff : ∀ j, wr.frozen? ⟨f, j, none⟩ = false := fun j => (hob.frozen j).trans (HF.out j)
      have hw1 : IntKind.i64.wrap (m + (k5 : Int) + 1) = m + (k5 : Int) + 1 := IntWalk.i64_in _ ⟨by omega, by omega⟩
      have hw2 : IntKind.i64.wrap (m + (k5 : Int) + 1 + 1) = m + (k5 : Int) + 1 + 1 := IntWalk.i64_in _ ⟨by omega, by omega⟩
      have hw3 : IntKind.i64.wrap (m + (k5 : Int) + 1 + 1 + 1) = m + (k5 : Int) + 1 + 1 + 1 := IntWalk.i64_in _ ⟨by omega, by omega⟩
      have hw4 : IntKind.i64.wrap (m + (k5 : Int) + 1 + 1 + 1 + 1) = m + (k5 : Int) + 1 + 1 + 1 + 1 := IntWalk.i64_in _ ⟨by omega, by omega⟩
      have hw5 : IntKind.i64.wrap (m + (k5 : Int) + 1 + 1 + 1 + 1 + 1) = m + (k5 : Int) + 1 + 1 + 1 + 1 + 1 := IntWalk.i64_in _ ⟨by omega, by omega⟩
      obtain ⟨W, hW, d0, d1, d2, d3, d4, dO, dB⟩ := five_stores wr f k5 (.int .i64 (m + (k5 : Int))) (.int .i64 (m + (k5 : Int) + 1)) (.int .i64 (m + (k5 : Int) + 1 + 1)) (.int .i64 (m + (k5 : Int) + 1 + 1 + 1)) (.int .i64 (m + (k5 : Int) + 1 + 1 + 1 + 1)) (by rw [c0]; rfl) (by rw [c1]; rfl) (by rw [c2]; rfl) (by rw [c3]; rfl) (by rw [c4]; rfl)
      have HW := Lib.hid hW
      have D := Lib.hid (And.intro d0 (And.intro d1 (And.intro d2 (And.intro d3 d4))))
      have DO := Lib.hid dO
      clear hW d0 d1 d2 d3 d4 dO hcell
      go_wp2_with fail
      go_roundw
      case rel =>
        rw [← HW.out]
        refine ⟨k + 1, by omega, by go_num, by go_num, fun j hj => ?_, fun j hj => ?_, hob.trans dB⟩
        · by_cases h5 : j < k5
          · exact (DO.out j (.inl h5)).trans (H1.out j h5)
          · obtain ⟨d0, d1, d2, d3, d4⟩ := D.out
            rcases (show j = k5 ∨ j = k5 + 1 ∨ j = k5 + 2 ∨ j = k5 + 3 ∨ j = k5 + 4 by omega) with rfl | rfl | rfl | rfl | rfl
            · exact d0
            · exact d1.trans (by go_num)
            · exact d2.trans (by go_num)
            · exact d3.trans (by go_num)
            · exact d4.trans (by go_num)
        · exact (DO.out j (.inr (by omega))).trans (H2.out j (by omega))
      case measure => simp [intOf]; omega
    · have hkk : n = k := by omega
      subst hkk
      subst hK5
      go_wp2_with fail
      go_ret
      exact ⟨rfl, H1.out, hob⟩

set_option maxHeartbeats 4000000 in
theorem heldReqS_c (f n cap : Nat) (m : Int) (w : World) (hlc : n ≤ cap) (hm0 : 0 ≤ m) (hm1 : m ≤ 1099511627776) (hn : n ≤ 1099511627776) (hc : ∀ j, j < n * 5 → w.cell? ⟨f, j, none⟩ = some (.int .i64 (m + j))) :
    Calls Try.prog 71 #[.slice (some ⟨f, 0, none⟩) n cap, .int .i64 m] w fun e w' => e = .returned (.int .i64 (m + ((n * 5 : Nat) : Int))) ∧ w = w' := by
  have HC := Lib.hid hc
  clear hc
  go_enter Try.func71, Try.ntmps71
  go_wp2_with fail
  go_loop [1, 5] (fun s i => ∃ k : Nat, k ≤ n ∧ i = .int .i64 k ∧ s = .int .i64 (m + ((k * 5 : Nat) : Int))) (fun _ i => n - (intOf i).toNat)
  case atStart => exact ⟨0, Nat.zero_le _, rfl, by simp⟩
  case round =>
    obtain ⟨k, hk, rfl, rfl⟩ := hrel
    generalize hK5 : k * 5 = k5 at *
    by_cases hlt : k < n
    · have hk1 : (k : Int) < (n : Int) := by omega
      have hk0 : (0 : Int) ≤ (k : Int) := by omega
      have c0 := HC.out k5 (by omega)
      have c1 : w.cell? ⟨f, k5 + 1, none⟩ = some (.int .i64 (m + (k5 : Int) + 1)) := (HC.out (k5 + 1) (by omega)).trans (by go_num)
      have c2 : w.cell? ⟨f, k5 + 2, none⟩ = some (.int .i64 (m + (k5 : Int) + 1 + 1)) := (HC.out (k5 + 2) (by omega)).trans (by go_num)
      have c3 : w.cell? ⟨f, k5 + 3, none⟩ = some (.int .i64 (m + (k5 : Int) + 1 + 1 + 1)) := (HC.out (k5 + 3) (by omega)).trans (by go_num)
      have c4 : w.cell? ⟨f, k5 + 4, none⟩ = some (.int .i64 (m + (k5 : Int) + 1 + 1 + 1 + 1)) := (HC.out (k5 + 4) (by omega)).trans (by go_num)
      have hw1 : IntKind.i64.wrap (m + (k5 : Int) + 1) = m + (k5 : Int) + 1 := IntWalk.i64_in _ ⟨by omega, by omega⟩
      have hw2 : IntKind.i64.wrap (m + (k5 : Int) + 1 + 1) = m + (k5 : Int) + 1 + 1 := IntWalk.i64_in _ ⟨by omega, by omega⟩
      have hw3 : IntKind.i64.wrap (m + (k5 : Int) + 1 + 1 + 1) = m + (k5 : Int) + 1 + 1 + 1 := IntWalk.i64_in _ ⟨by omega, by omega⟩
      have hw4 : IntKind.i64.wrap (m + (k5 : Int) + 1 + 1 + 1 + 1) = m + (k5 : Int) + 1 + 1 + 1 + 1 := IntWalk.i64_in _ ⟨by omega, by omega⟩
      have hw5 : IntKind.i64.wrap (m + (k5 : Int) + 1 + 1 + 1 + 1 + 1) = m + (k5 : Int) + 1 + 1 + 1 + 1 + 1 := IntWalk.i64_in _ ⟨by omega, by omega⟩
      go_wp2_with fail
      go_round
      case rel => exact ⟨k + 1, by omega, by go_num, by go_num⟩
      case measure => simp [intOf]; omega
    · have hkk : n = k := by omega
      subst hkk
      subst hK5
      go_wp2_with fail
      go_ret
      exact ⟨rfl, rfl⟩

set_option maxHeartbeats 1000000 in
theorem markReqS_0 (a : Option Addr) (cap : Nat) (m : Int) (w : World) : Calls Try.prog 70 #[.slice a 0 cap, .int .i64 m] w fun e w' => e = .returned (.int .i64 m) ∧ w = w' := by
  go_enter Try.func70, Try.ntmps70
  go_wp2_with fail
  refine wp_loop_rounds 1 ?_
  rw [rounds_succ]
  go_wp2_with fail
  go_ret
  exact ⟨rfl, rfl⟩
set_option maxHeartbeats 1000000 in
theorem heldReqS_0 (a : Option Addr) (cap : Nat) (m : Int) (w : World) : Calls Try.prog 71 #[.slice a 0 cap, .int .i64 m] w fun e w' => e = .returned (.int .i64 m) ∧ w = w' := by
  go_enter Try.func71, Try.ntmps71
  go_wp2_with fail
  refine wp_loop_rounds 1 ?_
  rw [rounds_succ]
  go_wp2_with fail
  go_ret
  exact ⟨rfl, rfl⟩

/-- A row marked. -/
theorem markReqs_r {B n : Nat} {a : Option Addr} {zs : List Rq} (m : Int) (w : World) (h : Row w B 34 a n 5 Rq.cs zs) (hl : zs.length = n) (hm0 : 0 ≤ m) (hm1 : m ≤ 1099511627776) (hn : n ≤ 1099511627776) :
    Calls Try.prog 70 #[.slice a n n, .int .i64 m] w fun e w' => e = .returned (.int .i64 (m + ((n * 5 : Nat) : Int))) ∧ MarkedRow a n 5 m w w' := by
  by_cases hp : 0 < n
  · obtain ⟨g, rfl, hg, hc, hf⟩ := h.cellsOf hl five_len hp
    refine (markReqS_c g n n m w (Nat.le_refl _) hm0 hm1 hn hc hf).mono fun e w' ⟨he, hm, ho⟩ => ⟨he, fun g' hg' j hj => ?_, ?_, ho.size⟩
    · rw [hg] at hg'
      injection hg' with hg'
      subst hg'
      exact hm j hj
    · rw [hg]
      exact ho.grownBy
  · obtain rfl : n = 0 := by omega
    refine (markReqS_0 a 0 m w).mono fun e w' ⟨he, hw⟩ => ?_
    subst hw
    exact ⟨by simpa using he, fun g hg => by simp [rowBlk] at hg, World.grownBy.refl w _, rfl⟩
theorem heldReqs_r {B n : Nat} {a : Option Addr} {zs : List Rq} {w0 : World} (m : Int) (w : World) (h : Row w0 B 34 a n 5 Rq.cs zs) (hl : zs.length = n) (hc : ∀ g, rowBlk a n = some g → ∀ j, j < n * 5 → w.cell? ⟨g, j, none⟩ = some (.int .i64 (m + j))) (hm0 : 0 ≤ m) (hm1 : m ≤ 1099511627776) (hn : n ≤ 1099511627776) :
    Calls Try.prog 71 #[.slice a n n, .int .i64 m] w fun e w' => e = .returned (.int .i64 (m + ((n * 5 : Nat) : Int))) ∧ w = w' := by
  by_cases hp : 0 < n
  · obtain ⟨g, rfl, hg, _, _⟩ := h.cellsOf hl five_len hp
    exact heldReqS_c g n n m w (Nat.le_refl _) hm0 hm1 hn (hc g hg)
  · obtain rfl : n = 0 := by omega
    refine (heldReqS_0 a 0 m w).mono fun e w' ⟨he, hw⟩ => ⟨by simpa using he, hw⟩


set_option maxHeartbeats 4000000 in
theorem markEntS_c (f n cap : Nat) (m : Int) (w : World) (hlc : n ≤ cap) (hm0 : 0 ≤ m) (hm1 : m ≤ 1099511627776) (hn : n ≤ 1099511627776) (hc : ∀ j, j < n * 5 → ∃ v, w.cell? ⟨f, j, none⟩ = some v) (hf : ∀ j, w.frozen? ⟨f, j, none⟩ = false) :
    Calls Try.prog 102 #[.slice (some ⟨f, 0, none⟩) n cap, .int .i64 m] w fun e w' => e = .returned (.int .i64 (m + ((n * 5 : Nat) : Int))) ∧ (∀ j, j < n * 5 → w'.cell? ⟨f, j, none⟩ = some (.int .i64 (m + j))) ∧ OnlyBlock f w w' := by
  have HC := Lib.hid hc
  have HF := Lib.hid hf
  clear hc hf
  go_enter Try.func102, Try.ntmps102
  go_wp2_with fail
  go_loopw [1, 5] (fun s i wr => ∃ k : Nat, k ≤ n ∧ i = .int .i64 k ∧ s = .int .i64 (m + ((k * 5 : Nat) : Int)) ∧ (∀ j, j < k * 5 → wr.cell? ⟨f, j, none⟩ = some (.int .i64 (m + j))) ∧ (∀ j, k * 5 ≤ j → wr.cell? ⟨f, j, none⟩ = w.cell? ⟨f, j, none⟩) ∧ OnlyBlock f w wr) (fun _ i _ => n - (intOf i).toNat)
  case atStart => exact ⟨0, Nat.zero_le _, rfl, by simp, fun j hj => absurd hj (by omega), fun _ _ => rfl, OnlyBlock.refl _ _⟩
  case round =>
    obtain ⟨k, hk, rfl, rfl, h1, h2, hob⟩ := hrel
    have H1 := Lib.hid h1
    have H2 := Lib.hid h2
    clear h1 h2
    generalize hK5 : k * 5 = k5 at *
    by_cases hlt : k < n
    · have hk1 : (k : Int) < (n : Int) := by omega
      have hk0 : (0 : Int) ≤ (k : Int) := by omega
      have hcell : ∀ i, i < 5 → ∃ v, wr.cell? ⟨f, k5 + i, none⟩ = some v := fun i hi => by
        obtain ⟨v, hv⟩ := HC.out (k5 + i) (by omega)
        exact ⟨v, (H2.out _ (by omega)).trans hv⟩
      obtain ⟨v0, c0⟩ := hcell 0 (by decide)
      obtain ⟨v1, c1⟩ := hcell 1 (by decide)
      obtain ⟨v2, c2⟩ := hcell 2 (by decide)
      obtain ⟨v3, c3⟩ := hcell 3 (by decide)
      obtain ⟨v4, c4⟩ := hcell 4 (by decide)
      rw [Nat.add_zero] at c0
      have ff : ∀ j, wr.frozen? ⟨f, j, none⟩ = false := fun j => (hob.frozen j).trans (HF.out j)
      have hw1 : IntKind.i64.wrap (m + (k5 : Int) + 1) = m + (k5 : Int) + 1 := IntWalk.i64_in _ ⟨by omega, by omega⟩
      have hw2 : IntKind.i64.wrap (m + (k5 : Int) + 1 + 1) = m + (k5 : Int) + 1 + 1 := IntWalk.i64_in _ ⟨by omega, by omega⟩
      have hw3 : IntKind.i64.wrap (m + (k5 : Int) + 1 + 1 + 1) = m + (k5 : Int) + 1 + 1 + 1 := IntWalk.i64_in _ ⟨by omega, by omega⟩
      have hw4 : IntKind.i64.wrap (m + (k5 : Int) + 1 + 1 + 1 + 1) = m + (k5 : Int) + 1 + 1 + 1 + 1 := IntWalk.i64_in _ ⟨by omega, by omega⟩
      have hw5 : IntKind.i64.wrap (m + (k5 : Int) + 1 + 1 + 1 + 1 + 1) = m + (k5 : Int) + 1 + 1 + 1 + 1 + 1 := IntWalk.i64_in _ ⟨by omega, by omega⟩
      obtain ⟨W, hW, d0, d1, d2, d3, d4, dO, dB⟩ := five_stores wr f k5 (.int .i64 (m + (k5 : Int))) (.int .i64 (m + (k5 : Int) + 1)) (.int .i64 (m + (k5 : Int) + 1 + 1)) (.int .i64 (m + (k5 : Int) + 1 + 1 + 1)) (.int .i64 (m + (k5 : Int) + 1 + 1 + 1 + 1)) (by rw [c0]; rfl) (by rw [c1]; rfl) (by rw [c2]; rfl) (by rw [c3]; rfl) (by rw [c4]; rfl)
      have HW := Lib.hid hW
      have D := Lib.hid (And.intro d0 (And.intro d1 (And.intro d2 (And.intro d3 d4))))
      have DO := Lib.hid dO
      clear hW d0 d1 d2 d3 d4 dO hcell
      go_wp2_with fail
      go_roundw
      case rel =>
        rw [← HW.out]
        refine ⟨k + 1, by omega, by go_num, by go_num, fun j hj => ?_, fun j hj => ?_, hob.trans dB⟩
        · by_cases h5 : j < k5
          · exact (DO.out j (.inl h5)).trans (H1.out j h5)
          · obtain ⟨d0, d1, d2, d3, d4⟩ := D.out
            rcases (show j = k5 ∨ j = k5 + 1 ∨ j = k5 + 2 ∨ j = k5 + 3 ∨ j = k5 + 4 by omega) with rfl | rfl | rfl | rfl | rfl
            · exact d0
            · exact d1.trans (by go_num)
            · exact d2.trans (by go_num)
            · exact d3.trans (by go_num)
            · exact d4.trans (by go_num)
        · exact (DO.out j (.inr (by omega))).trans (H2.out j (by omega))
      case measure => simp [intOf]; omega
    · have hkk : n = k := by omega
      subst hkk
      subst hK5
      go_wp2_with fail
      go_ret
      exact ⟨rfl, H1.out, hob⟩

set_option maxHeartbeats 4000000 in
theorem heldEntS_c (f n cap : Nat) (m : Int) (w : World) (hlc : n ≤ cap) (hm0 : 0 ≤ m) (hm1 : m ≤ 1099511627776) (hn : n ≤ 1099511627776) (hc : ∀ j, j < n * 5 → w.cell? ⟨f, j, none⟩ = some (.int .i64 (m + j))) :
    Calls Try.prog 103 #[.slice (some ⟨f, 0, none⟩) n cap, .int .i64 m] w fun e w' => e = .returned (.int .i64 (m + ((n * 5 : Nat) : Int))) ∧ w = w' := by
  have HC := Lib.hid hc
  clear hc
  go_enter Try.func103, Try.ntmps103
  go_wp2_with fail
  go_loop [1, 5] (fun s i => ∃ k : Nat, k ≤ n ∧ i = .int .i64 k ∧ s = .int .i64 (m + ((k * 5 : Nat) : Int))) (fun _ i => n - (intOf i).toNat)
  case atStart => exact ⟨0, Nat.zero_le _, rfl, by simp⟩
  case round =>
    obtain ⟨k, hk, rfl, rfl⟩ := hrel
    generalize hK5 : k * 5 = k5 at *
    by_cases hlt : k < n
    · have hk1 : (k : Int) < (n : Int) := by omega
      have hk0 : (0 : Int) ≤ (k : Int) := by omega
      have c0 := HC.out k5 (by omega)
      have c1 : w.cell? ⟨f, k5 + 1, none⟩ = some (.int .i64 (m + (k5 : Int) + 1)) := (HC.out (k5 + 1) (by omega)).trans (by go_num)
      have c2 : w.cell? ⟨f, k5 + 2, none⟩ = some (.int .i64 (m + (k5 : Int) + 1 + 1)) := (HC.out (k5 + 2) (by omega)).trans (by go_num)
      have c3 : w.cell? ⟨f, k5 + 3, none⟩ = some (.int .i64 (m + (k5 : Int) + 1 + 1 + 1)) := (HC.out (k5 + 3) (by omega)).trans (by go_num)
      have c4 : w.cell? ⟨f, k5 + 4, none⟩ = some (.int .i64 (m + (k5 : Int) + 1 + 1 + 1 + 1)) := (HC.out (k5 + 4) (by omega)).trans (by go_num)
      have hw1 : IntKind.i64.wrap (m + (k5 : Int) + 1) = m + (k5 : Int) + 1 := IntWalk.i64_in _ ⟨by omega, by omega⟩
      have hw2 : IntKind.i64.wrap (m + (k5 : Int) + 1 + 1) = m + (k5 : Int) + 1 + 1 := IntWalk.i64_in _ ⟨by omega, by omega⟩
      have hw3 : IntKind.i64.wrap (m + (k5 : Int) + 1 + 1 + 1) = m + (k5 : Int) + 1 + 1 + 1 := IntWalk.i64_in _ ⟨by omega, by omega⟩
      have hw4 : IntKind.i64.wrap (m + (k5 : Int) + 1 + 1 + 1 + 1) = m + (k5 : Int) + 1 + 1 + 1 + 1 := IntWalk.i64_in _ ⟨by omega, by omega⟩
      have hw5 : IntKind.i64.wrap (m + (k5 : Int) + 1 + 1 + 1 + 1 + 1) = m + (k5 : Int) + 1 + 1 + 1 + 1 + 1 := IntWalk.i64_in _ ⟨by omega, by omega⟩
      go_wp2_with fail
      go_round
      case rel => exact ⟨k + 1, by omega, by go_num, by go_num⟩
      case measure => simp [intOf]; omega
    · have hkk : n = k := by omega
      subst hkk
      subst hK5
      go_wp2_with fail
      go_ret
      exact ⟨rfl, rfl⟩

set_option maxHeartbeats 1000000 in
theorem markEntS_0 (a : Option Addr) (cap : Nat) (m : Int) (w : World) : Calls Try.prog 102 #[.slice a 0 cap, .int .i64 m] w fun e w' => e = .returned (.int .i64 m) ∧ w = w' := by
  go_enter Try.func102, Try.ntmps102
  go_wp2_with fail
  refine wp_loop_rounds 1 ?_
  rw [rounds_succ]
  go_wp2_with fail
  go_ret
  exact ⟨rfl, rfl⟩
set_option maxHeartbeats 1000000 in
theorem heldEntS_0 (a : Option Addr) (cap : Nat) (m : Int) (w : World) : Calls Try.prog 103 #[.slice a 0 cap, .int .i64 m] w fun e w' => e = .returned (.int .i64 m) ∧ w = w' := by
  go_enter Try.func103, Try.ntmps103
  go_wp2_with fail
  refine wp_loop_rounds 1 ?_
  rw [rounds_succ]
  go_wp2_with fail
  go_ret
  exact ⟨rfl, rfl⟩

/-- A row marked. -/
theorem markEnts_r {B n : Nat} {a : Option Addr} {zs : List Rq} (m : Int) (w : World) (h : Row w B 92 a n 5 Rq.cs zs) (hl : zs.length = n) (hm0 : 0 ≤ m) (hm1 : m ≤ 1099511627776) (hn : n ≤ 1099511627776) :
    Calls Try.prog 102 #[.slice a n n, .int .i64 m] w fun e w' => e = .returned (.int .i64 (m + ((n * 5 : Nat) : Int))) ∧ MarkedRow a n 5 m w w' := by
  by_cases hp : 0 < n
  · obtain ⟨g, rfl, hg, hc, hf⟩ := h.cellsOf hl five_len hp
    refine (markEntS_c g n n m w (Nat.le_refl _) hm0 hm1 hn hc hf).mono fun e w' ⟨he, hm, ho⟩ => ⟨he, fun g' hg' j hj => ?_, ?_, ho.size⟩
    · rw [hg] at hg'
      injection hg' with hg'
      subst hg'
      exact hm j hj
    · rw [hg]
      exact ho.grownBy
  · obtain rfl : n = 0 := by omega
    refine (markEntS_0 a 0 m w).mono fun e w' ⟨he, hw⟩ => ?_
    subst hw
    exact ⟨by simpa using he, fun g hg => by simp [rowBlk] at hg, World.grownBy.refl w _, rfl⟩
theorem heldEnts_r {B n : Nat} {a : Option Addr} {zs : List Rq} {w0 : World} (m : Int) (w : World) (h : Row w0 B 92 a n 5 Rq.cs zs) (hl : zs.length = n) (hc : ∀ g, rowBlk a n = some g → ∀ j, j < n * 5 → w.cell? ⟨g, j, none⟩ = some (.int .i64 (m + j))) (hm0 : 0 ≤ m) (hm1 : m ≤ 1099511627776) (hn : n ≤ 1099511627776) :
    Calls Try.prog 103 #[.slice a n n, .int .i64 m] w fun e w' => e = .returned (.int .i64 (m + ((n * 5 : Nat) : Int))) ∧ w = w' := by
  by_cases hp : 0 < n
  · obtain ⟨g, rfl, hg, _, _⟩ := h.cellsOf hl five_len hp
    exact heldEntS_c g n n m w (Nat.le_refl _) hm0 hm1 hn (hc g hg)
  · obtain rfl : n = 0 := by omega
    refine (heldEntS_0 a 0 m w).mono fun e w' ⟨he, hw⟩ => ⟨by simpa using he, hw⟩


set_option maxHeartbeats 1000000 in
theorem markIntS_0 (a : Option Addr) (cap : Nat) (m : Int) (w : World) : Calls Try.prog 49 #[.slice a 0 cap, .int .i64 m] w fun e w' => e = .returned (.int .i64 m) ∧ w = w' := by
  go_enter Try.func49, Try.ntmps49
  go_wp2_with fail
  refine wp_loop_rounds 1 ?_
  rw [rounds_succ]
  go_wp2_with fail
  go_ret
  exact ⟨rfl, rfl⟩
set_option maxHeartbeats 1000000 in
theorem heldIntS_0 (a : Option Addr) (cap : Nat) (m : Int) (w : World) : Calls Try.prog 50 #[.slice a 0 cap, .int .i64 m] w fun e w' => e = .returned (.int .i64 m) ∧ w = w' := by
  go_enter Try.func50, Try.ntmps50
  go_wp2_with fail
  refine wp_loop_rounds 1 ?_
  rw [rounds_succ]
  go_wp2_with fail
  go_ret
  exact ⟨rfl, rfl⟩
theorem markInt_r {B n : Nat} {a : Option Addr} {zs : List Int} (m : Int) (w : World) (h : Row w B 3 a n 1 intR zs) (hl : zs.length = n) (hm0 : 0 ≤ m) (hm1 : m ≤ 1099511627776) (hn : n ≤ 1099511627776) :
    Calls Try.prog 49 #[.slice a n n, .int .i64 m] w fun e w' => e = .returned (.int .i64 (m + (n : Int))) ∧ MarkedRow a n 1 m w w' := by
  by_cases hp : 0 < n
  · obtain ⟨g, rfl, hg, hc, hf⟩ := h.cellsOf hl int_len hp
    refine (markIntS_c g n n m w (Nat.le_refl _) hm0 hm1 hn (fun j hj => hc j (by omega)) (fun j _ => hf j)).mono fun e w' ⟨he, hm, ho⟩ => ⟨he, fun g' hg' j hj => ?_, ?_, ho.size⟩
    · rw [hg] at hg'
      injection hg' with hg'
      subst hg'
      exact hm j (by omega)
    · rw [hg]
      exact ho.grownBy
  · obtain rfl : n = 0 := by omega
    refine (markIntS_0 a 0 m w).mono fun e w' ⟨he, hw⟩ => ?_
    subst hw
    exact ⟨by simpa using he, fun g hg => by simp [rowBlk] at hg, World.grownBy.refl w _, rfl⟩
theorem heldInt_r {B n : Nat} {a : Option Addr} {zs : List Int} {w0 : World} (m : Int) (w : World) (h : Row w0 B 3 a n 1 intR zs) (hl : zs.length = n) (hc : ∀ g, rowBlk a n = some g → ∀ j, j < n * 1 → w.cell? ⟨g, j, none⟩ = some (.int .i64 (m + j))) (hm0 : 0 ≤ m) (hm1 : m ≤ 1099511627776) (hn : n ≤ 1099511627776) :
    Calls Try.prog 50 #[.slice a n n, .int .i64 m] w fun e w' => e = .returned (.int .i64 (m + (n : Int))) ∧ w = w' := by
  by_cases hp : 0 < n
  · obtain ⟨g, rfl, hg, _, _⟩ := h.cellsOf hl int_len hp
    exact heldIntS_c g n n m w (Nat.le_refl _) hm0 hm1 hn (fun j hj => hc g hg j (by omega))
  · obtain rfl : n = 0 := by omega
    refine (heldIntS_0 a 0 m w).mono fun e w' ⟨he, hw⟩ => ⟨by simpa using he, hw⟩
end Go.Proofs.Ytofedboeggdkaaa
