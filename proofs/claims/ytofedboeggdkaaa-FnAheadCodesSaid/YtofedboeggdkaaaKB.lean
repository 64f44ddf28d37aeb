/- Contracts of markIntS, heldIntS, and of markEntS, heldEntS at the nil slice; condition: small numbers. | Contracts of markReqS, markEntS, heldReqS, heldEntS; marks over rows of the program's own; condition: small numbers. | Contracts of markAhead, heldAhead over rows of the program's own; condition: small numbers. | slices.Delete of one element, at lists of asks and of figures; condition: small sizes. | A cell of an own row stored: the row with one element turned; no condition. | Contract of GameOk (the program's); condition: at most 2^20 elements. | Contract of the reference's GameOk; condition: at most 2^20 elements. | The place of a client's figure: the program's figure, the reference's l2At; near, l2Near; condition: small sizes. | A game in rows of its own: three rows apart from each other, kept, and one of them made anew; no condition. | Contracts of toGame, szGame, eqGame; condition: at most 2^20 elements. | Contracts of GameNew and of its reference; no condition. | The walk of FnExactGameOk; no condition. -/
import Derived.Test.YtofedboeggdkaaaKA
import Derived.LoopTactic
import Derived.StillTailTactics
set_option linter.unusedSimpArgs false
set_option linter.unusedVariables false
/-! Contracts of markIntS, heldIntS, and of markEntS, heldEntS at the nil slice; condition: small numbers. -/
namespace Go.Proofs.Ytofedboeggdkaaa
open Go.RowKit Go.Joins

/-- Only cells of block f have turned. -/
structure OnlyBlock (f : Nat) (w w' : World) : Prop where
  others : ∀ b, b ≠ f → w'.heap[b]? = w.heap[b]?
  size : w'.heap.size = w.heap.size
  frozen : ∀ j, w'.frozen? ⟨f, j, none⟩ = w.frozen? ⟨f, j, none⟩
  below : Below f w w'
theorem OnlyBlock.refl (f : Nat) (w : World) : OnlyBlock f w w := ⟨fun _ _ => rfl, rfl, fun _ => rfl, Below.refl _ _⟩
theorem OnlyBlock.set {f : Nat} {w w' : World} (h : OnlyBlock f w w') (j : Nat) (v : Value) : OnlyBlock f w (w'.setCell ⟨f, j, none⟩ v) :=
  ⟨fun b hb => (Below.heap_setCell w' _ v b hb).trans (h.others b hb), by simp [h.size], fun i => by rw [World.frozen?_setCell]; exact h.frozen i, Below.setCell h.below (Nat.le_refl _) v⟩

def Marked (f n : Nat) (m : Int) (w : World) (e : Ending) (w' : World) : Prop :=
  e = .returned (.int .i64 (m + n)) ∧ (∀ j, j < n → w'.cell? ⟨f, j, none⟩ = some (.int .i64 (m + j))) ∧ OnlyBlock f w w'

set_option maxHeartbeats 1000000 in
theorem markIntS_c (f n cap : Nat) (m : Int) (w : World) (hlc : n ≤ cap) (hm0 : 0 ≤ m) (hm1 : m ≤ 1099511627776) (hn : n ≤ 1099511627776) (hc : ∀ j, j < n → ∃ v, w.cell? ⟨f, j, none⟩ = some v) (hf : ∀ j, j < n → w.frozen? ⟨f, j, none⟩ = false) :
    Calls Try.prog 49 #[.slice (some ⟨f, 0, none⟩) n cap, .int .i64 m] w (Marked f n m w) := by
  have HC := Lib.hid hc
  have HF := Lib.hid hf
  clear hc hf
  go_enter Try.func49, Try.ntmps49
  go_wp2_with fail
  go_loopw [1, 5] (fun s i wr => ∃ k : Nat, k ≤ n ∧ i = .int .i64 k ∧ s = .int .i64 (m + k) ∧ (∀ j, j < k → wr.cell? ⟨f, j, none⟩ = some (.int .i64 (m + j))) ∧ (∀ j, k ≤ j → wr.cell? ⟨f, j, none⟩ = w.cell? ⟨f, j, none⟩) ∧ OnlyBlock f w wr) (fun _ i _ => n - (intOf i).toNat)
  case atStart => exact ⟨0, Nat.zero_le _, rfl, by simp, fun j hj => absurd hj (Nat.not_lt_zero j), fun _ _ => rfl, OnlyBlock.refl _ _⟩
  case round =>
    obtain ⟨k, hk, rfl, rfl, h1, h2, hob⟩ := hrel
    have H1 := Lib.hid h1
    have H2 := Lib.hid h2
    clear h1 h2
    by_cases hlt : k < n
    · have hk1 : (k : Int) < (n : Int) := by omega
      have hk0 : (0 : Int) ≤ (k : Int) := by omega
      obtain ⟨v, hv⟩ := HC.out k hlt
      have c0 : wr.cell? ⟨f, k, none⟩ = some v := (H2.out k (Nat.le_refl _)).trans hv
      have f0 : wr.frozen? ⟨f, k, none⟩ = false := (hob.frozen k).trans (HF.out k hlt)
      have hw : IntKind.i64.wrap (m + (k : Int) + 1) = m + (k : Int) + 1 := IntWalk.i64_in _ ⟨by omega, by omega⟩
      have hset := World.cell?_setCell_same' wr ⟨f, k, none⟩ (.int .i64 (m + (k : Int))) (by rw [c0]; rfl)
      have HS := Lib.hid hset
      clear hset hv
      go_wp2_with fail
      go_roundw
      case rel =>
        refine ⟨k + 1, by omega, ?_, ?_, fun j hj => ?_, fun j hj => ?_, hob.set k _⟩
        · go_num
        · go_num
        · by_cases hjk : j = k
          · subst hjk; exact HS.out
          · rw [World.cell?_setCell_other (h := by simp <;> omega)]
            exact H1.out j (by omega)
        · rw [World.cell?_setCell_other (h := by simp <;> omega)]
          exact H2.out j (by omega)
      case measure => simp [intOf]; omega
    · have hkk : n = k := by omega
      subst hkk
      go_wp2_with fail
      go_ret
      exact ⟨rfl, H1.out, hob⟩

set_option maxHeartbeats 1000000 in
theorem heldIntS_c (f n cap : Nat) (m : Int) (w : World) (hlc : n ≤ cap) (hm0 : 0 ≤ m) (hm1 : m ≤ 1099511627776) (hn : n ≤ 1099511627776) (hc : ∀ j, j < n → w.cell? ⟨f, j, none⟩ = some (.int .i64 (m + j))) :
    Calls Try.prog 50 #[.slice (some ⟨f, 0, none⟩) n cap, .int .i64 m] w fun e w' => e = .returned (.int .i64 (m + n)) ∧ w = w' := by
  have HC := Lib.hid hc
  clear hc
  go_enter Try.func50, Try.ntmps50
  go_wp2_with fail
  go_loop [1, 5] (fun s i => ∃ k : Nat, k ≤ n ∧ i = .int .i64 k ∧ s = .int .i64 (m + k)) (fun _ i => n - (intOf i).toNat)
  case atStart => exact ⟨0, Nat.zero_le _, rfl, by simp⟩
  case round =>
    obtain ⟨k, hk, rfl, rfl⟩ := hrel
    by_cases hlt : k < n
    · have hk1 : (k : Int) < (n : Int) := by omega
      have hk0 : (0 : Int) ≤ (k : Int) := by omega
      have c0 := HC.out k hlt
      have hw : IntKind.i64.wrap (m + (k : Int) + 1) = m + (k : Int) + 1 := IntWalk.i64_in _ ⟨by omega, by omega⟩
      go_wp2_with fail
      go_round
      case rel => exact ⟨k + 1, by omega, by go_num, by go_num⟩
      case measure => simp [intOf]; omega
    · have hkk : n = k := by omega
      subst hkk
      go_wp2_with fail
      go_ret
      exact ⟨rfl, rfl⟩
end Go.Proofs.Ytofedboeggdkaaa

/-! Contracts of markReqS, markEntS, heldReqS, heldEntS; marks over rows of the program's own; condition: small numbers. -/
namespace Go.Proofs.Ytofedboeggdkaaa
open Go.RowKit Go.Joins

/-- Five stores, one behind the other, into the cells from j on. -/
theorem five_stores (w : World) (f j : Nat) (v0 v1 v2 v3 v4 : Value) (h0 : (w.cell? ⟨f, j, none⟩).isSome = true) (h1 : (w.cell? ⟨f, j + 1, none⟩).isSome = true) (h2 : (w.cell? ⟨f, j + 2, none⟩).isSome = true) (h3 : (w.cell? ⟨f, j + 3, none⟩).isSome = true) (h4 : (w.cell? ⟨f, j + 4, none⟩).isSome = true) :
    ∃ W, W = ((((w.setCell ⟨f, j, none⟩ v0).setCell ⟨f, j + 1, none⟩ v1).setCell ⟨f, j + 2, none⟩ v2).setCell ⟨f, j + 3, none⟩ v3).setCell ⟨f, j + 4, none⟩ v4 ∧
      W.cell? ⟨f, j, none⟩ = some v0 ∧ W.cell? ⟨f, j + 1, none⟩ = some v1 ∧ W.cell? ⟨f, j + 2, none⟩ = some v2 ∧ W.cell? ⟨f, j + 3, none⟩ = some v3 ∧ W.cell? ⟨f, j + 4, none⟩ = some v4 ∧
      (∀ i, i < j ∨ j + 5 ≤ i → W.cell? ⟨f, i, none⟩ = w.cell? ⟨f, i, none⟩) ∧ OnlyBlock f w W := by
  refine ⟨_, rfl, ?_, ?_, ?_, ?_, ?_, fun i hi => ?_, ((((((OnlyBlock.refl f w).set _ _).set _ _).set _ _).set _ _).set _ _)⟩
  · rw [World.cell?_setCell_other (h := by simp), World.cell?_setCell_other (h := by simp), World.cell?_setCell_other (h := by simp), World.cell?_setCell_other (h := by simp), World.cell?_setCell_same' _ _ _ h0]
  · rw [World.cell?_setCell_other (h := by simp), World.cell?_setCell_other (h := by simp), World.cell?_setCell_other (h := by simp), World.cell?_setCell_same' _ _ _ (by rw [World.cell?_setCell_other (h := by simp)]; exact h1)]
  · rw [World.cell?_setCell_other (h := by simp), World.cell?_setCell_other (h := by simp), World.cell?_setCell_same' _ _ _ (by rw [World.cell?_setCell_other (h := by simp), World.cell?_setCell_other (h := by simp)]; exact h2)]
  · rw [World.cell?_setCell_other (h := by simp), World.cell?_setCell_same' _ _ _ (by rw [World.cell?_setCell_other (h := by simp), World.cell?_setCell_other (h := by simp), World.cell?_setCell_other (h := by simp)]; exact h3)]
  · rw [World.cell?_setCell_same' _ _ _ (by rw [World.cell?_setCell_other (h := by simp), World.cell?_setCell_other (h := by simp), World.cell?_setCell_other (h := by simp), World.cell?_setCell_other (h := by simp)]; exact h4)]
  · rw [World.cell?_setCell_other (h := by simp <;> omega), World.cell?_setCell_other (h := by simp <;> omega), World.cell?_setCell_other (h := by simp <;> omega), World.cell?_setCell_other (h := by simp <;> omega), World.cell?_setCell_other (h := by simp <;> omega)]
theorem OnlyBlock.trans {f : Nat} {a b c : World} (h : OnlyBlock f a b) (k : OnlyBlock f b c) : OnlyBlock f a c :=
  ⟨fun x hx => (k.others x hx).trans (h.others x hx), k.size.trans h.size, fun j => (k.frozen j).trans (h.frozen j), h.below.trans k.below⟩

/-- A row's cells, numbered from m on; nothing else has turned. -/
structure MarkedRow (a : Option Addr) (n k : Nat) (m : Int) (w w' : World) : Prop where
  cells : ∀ g, rowBlk a n = some g → ∀ j, j < n * k → w'.cell? ⟨g, j, none⟩ = some (.int .i64 (m + j))
  grown : w.grownBy w' (rowBlk a n)
  size : w'.heap.size = w.heap.size
theorem OnlyBlock.grownBy {g : Nat} {w w' : World} (h : OnlyBlock g w w') : w.grownBy w' (some g) :=
  ⟨h.below.os, h.below.tape, h.below.output, Nat.le_of_eq h.size.symm, fun b _ hb => h.others b (fun e => hb (by rw [e]))⟩
theorem Row.cellsOf {α : Type} {w : World} {B e n k : Nat} {a : Option Addr} {R : α → List Value} {zs : List α} (h : Row w B e a n k R zs) (hn : zs.length = n) (hR : ∀ z, (R z).length = k) (hp : 0 < n) :
    ∃ g, a = some ⟨g, 0, none⟩ ∧ rowBlk a n = some g ∧ (∀ j, j < n * k → ∃ v, w.cell? ⟨g, j, none⟩ = some v) ∧ ∀ j, w.frozen? ⟨g, j, none⟩ = false := by
  obtain ⟨g, cur, rfl, h2, h3, h4, h5⟩ := h.own hp
  refine ⟨g, rfl, by simp [rowBlk]; omega, fun j hj => ⟨_, (cell_of_block h3 j).trans (Array.getElem?_eq_getElem (by omega))⟩, fun j => unfrozen_of_block h3 j⟩


set_option maxHeartbeats 4000000 in
theorem markReqS_c (f n cap : Nat) (m : Int) (w : World) (hlc : n ≤ cap) (hm0 : 0 ≤ m) (hm1 : m ≤ 1099511627776) (hn : n ≤ 1099511627776) (hc : ∀ j, j < n * 5 → ∃ v, w.cell? ⟨f, j, none⟩ = some v) (hf : ∀ j, w.frozen? ⟨f, j, none⟩ = false) :
    Calls Try.prog 70 #[.slice (some ⟨f, 0, none⟩) n cap, .int .i64 m] w fun e w' => e = .returned (.int .i64 (m + ((n * 5 : Nat) : Int))) ∧ (∀ j, j < n * 5 → w'.cell? ⟨f, j, none⟩ = some (.int .i64 (m + j))) ∧ OnlyBlock f w w' := by
  have HC := Lib.hid hc
  have HF := Lib.hid hf
  clear hc hf
  go_enter Try.func70, Try.ntmps70
  go_wp2_with fail
  go_loopw [1, 5] (fun s i wr => ∃ k : Nat, k ≤ n ∧ i = .int .i64 k ∧ s = .int .i64 (m + ((k * 5 : Nat) : Int)) ∧ (∀ j, j < k * 5 → wr.cell? ⟨f, j, none⟩ = some (.int .i64 (m + j))) ∧ (∀ j, k * 5 ≤ j → wr.cell? ⟨f, j, none⟩ = w.cell? ⟨f, j, none⟩) ∧ OnlyBlock f w wr) (fun _ i _ => n - (intOf i).toNat)
  case atStart => exact ⟨0, Nat.zero_le _, rfl, by simp, fun j hj => absurd hj (by omega), fun _ _ => rfl, OnlyBlock.refl _ _⟩
  case round =>
    obtain ⟨k, hk, rfl, rfl, h1, h2, hob⟩ := hrel
    have H1 := Lib.hid h1
    have H2 := Lib.hid h2
    clear h1 h2
    generalize hK5 : k * 5 = k5 at *
    by_cases hlt : k < n
    · have hk1 : (k : Int) < (n : Int) := by omega
      have hk0 : (0 : Int) ≤ (k : Int) := by omega
      have hcell : ∀ i, i < 5 → ∃ v, wr.cell? ⟨f, k5 + i, none⟩ = some v := fun i hi => by
        obtain ⟨v, hv⟩ := HC.out (k5 + i) (by omega)
        exact ⟨v, (H2.out _ (by omega)).trans hv⟩
      obtain ⟨v0, c0⟩ := hcell 0 (by decide)
      obtain ⟨v1, c1⟩ := hcell 1 (by decide)
      obtain ⟨v2, c2⟩ := hcell 2 (by decide)
      obtain ⟨v3, c3⟩ := hcell 3 (by decide)
      obtain ⟨v4, c4⟩ := hcell 4 (by decide)
      rw [Nat.add_zero] at c0
      have ff : ∀ j, wr.frozen? ⟨f, j, none⟩ = false := fun j => (hob.frozen j).trans (HF.out j)
      have hw1 : IntKind.i64.wrap (m + (k5 : Int) + 1) = m + (k5 : Int) + 1 := IntWalk.i64_in _ ⟨by omega, by omega⟩
      have hw2 : IntKind.i64.wrap (m + (k5 : Int) + 1 + 1) = m + (k5 : Int) + 1 + 1 := IntWalk.i64_in _ ⟨by omega, by omega⟩
      have hw3 : IntKind.i64.wrap (m + (k5 : Int) + 1 + 1 + 1) = m + (k5 : Int) + 1 + 1 + 1 := IntWalk.i64_in _ ⟨by omega, by omega⟩
      have hw4 : IntKind.i64.wrap (m + (k5 : Int) + 1 + 1 + 1 + 1) = m + (k5 : Int) + 1 + 1 + 1 + 1 := IntWalk.i64_in _ ⟨by omega, by omega⟩
      have hw5 : IntKind.i64.wrap (m + (k5 : Int) + 1 + 1 + 1 + 1 + 1) = m + (k5 : Int) + 1 + 1 + 1 + 1 + 1 := IntWalk.i64_in _ ⟨by omega, by omega⟩
      obtain ⟨W, hW, d0, d1, d2, d3, d4, dO, dB⟩ := five_stores wr f k5 (.int .i64 (m + (k5 : Int))) (.int .i64 (m + (k5 : Int) + 1)) (.int .i64 (m + (k5 : Int) + 1 + 1)) (.int .i64 (m + (k5 : Int) + 1 + 1 + 1)) (.int .i64 (m + (k5 : Int) + 1 + 1 + 1 + 1)) (by rw [c0]; rfl) (by rw [c1]; rfl) (by rw [c2]; rfl) (by rw [c3]; rfl) (by rw [c4]; rfl)
      have HW := Lib.hid hW
      have D := Lib.hid (And.intro d0 (And.intro d1 (And.intro d2 (And.intro d3 d4))))
      have DO := Lib.hid dO
      clear hW d0 d1 d2 d3 d4 dO hcell
      go_wp2_with fail
      go_roundw
      case rel =>
        rw [← HW.out]
        refine ⟨k + 1, by omega, by go_num, by go_num, fun j hj => ?_, fun j hj => ?_, hob.trans dB⟩
        · by_cases h5 : j < k5
          · exact (DO.out j (.inl h5)).trans (H1.out j h5)
          · obtain ⟨d0, d1, d2, d3, d4⟩ := D.out
            rcases (show j = k5 ∨ j = k5 + 1 ∨ j = k5 + 2 ∨ j = k5 + 3 ∨ j = k5 + 4 by omega) with rfl | rfl | rfl | rfl | rfl
            · exact d0
            · exact d1.trans (by go_num)
            · exact d2.trans (by go_num)
            · exact d3.trans (by go_num)
            · exact d4.trans (by go_num)
        · exact (DO.out j (.inr (by omega))).trans (H2.out j (by omega))
      case measure => simp [intOf]; omega
    · have hkk : n = k := by omega
      subst hkk
      subst hK5
      go_wp2_with fail
      go_ret
      exact ⟨rfl, H1.out, hob⟩

set_option maxHeartbeats 4000000 in
theorem heldReqS_c (f n cap : Nat) (m : Int) (w : World) (hlc : n ≤ cap) (hm0 : 0 ≤ m) (hm1 : m ≤ 1099511627776) (hn : n ≤ 1099511627776) (hc : ∀ j, j < n * 5 → w.cell? ⟨f, j, none⟩ = some (.int .i64 (m + j))) :
    Calls Try.prog 71 #[.slice (some ⟨f, 0, none⟩) n cap, .int .i64 m] w fun e w' => e = .returned (.int .i64 (m + ((n * 5 : Nat) : Int))) ∧ w = w' := by
  have HC := Lib.hid hc
  clear hc
  go_enter Try.func71, Try.ntmps71
  go_wp2_with fail
  go_loop [1, 5] (fun s i => ∃ k : Nat, k ≤ n ∧ i = .int .i64 k ∧ s = .int .i64 (m + ((k * 5 : Nat) : Int))) (fun _ i => n - (intOf i).toNat)
  case atStart => exact ⟨0, Nat.zero_le _, rfl, by simp⟩
  case round =>
    obtain ⟨k, hk, rfl, rfl⟩ := hrel
    generalize hK5 : k * 5 = k5 at *
    by_cases hlt : k < n
    · have hk1 : (k : Int) < (n : Int) := by omega
      have hk0 : (0 : Int) ≤ (k : Int) := by omega
      have c0 := HC.out k5 (by omega)
      have c1 : w.cell? ⟨f, k5 + 1, none⟩ = some (.int .i64 (m + (k5 : Int) + 1)) := (HC.out (k5 + 1) (by omega)).trans (by go_num)
      have c2 : w.cell? ⟨f, k5 + 2, none⟩ = some (.int .i64 (m + (k5 : Int) + 1 + 1)) := (HC.out (k5 + 2) (by omega)).trans (by go_num)
      have c3 : w.cell? ⟨f, k5 + 3, none⟩ = some (.int .i64 (m + (k5 : Int) + 1 + 1 + 1)) := (HC.out (k5 + 3) (by omega)).trans (by go_num)
      have c4 : w.cell? ⟨f, k5 + 4, none⟩ = some (.int .i64 (m + (k5 : Int) + 1 + 1 + 1 + 1)) := (HC.out (k5 + 4) (by omega)).trans (by go_num)
      have hw1 : IntKind.i64.wrap (m + (k5 : Int) + 1) = m + (k5 : Int) + 1 := IntWalk.i64_in _ ⟨by omega, by omega⟩
      have hw2 : IntKind.i64.wrap (m + (k5 : Int) + 1 + 1) = m + (k5 : Int) + 1 + 1 := IntWalk.i64_in _ ⟨by omega, by omega⟩
      have hw3 : IntKind.i64.wrap (m + (k5 : Int) + 1 + 1 + 1) = m + (k5 : Int) + 1 + 1 + 1 := IntWalk.i64_in _ ⟨by omega, by omega⟩
      have hw4 : IntKind.i64.wrap (m + (k5 : Int) + 1 + 1 + 1 + 1) = m + (k5 : Int) + 1 + 1 + 1 + 1 := IntWalk.i64_in _ ⟨by omega, by omega⟩
      have hw5 : IntKind.i64.wrap (m + (k5 : Int) + 1 + 1 + 1 + 1 + 1) = m + (k5 : Int) + 1 + 1 + 1 + 1 + 1 := IntWalk.i64_in _ ⟨by omega, by omega⟩
      go_wp2_with fail
      go_round
      case rel => exact ⟨k + 1, by omega, by go_num, by go_num⟩
      case measure => simp [intOf]; omega
    · have hkk : n = k := by omega
      subst hkk
      subst hK5
      go_wp2_with fail
      go_ret
      exact ⟨rfl, rfl⟩

set_option maxHeartbeats 1000000 in
theorem markReqS_0 (a : Option Addr) (cap : Nat) (m : Int) (w : World) : Calls Try.prog 70 #[.slice a 0 cap, .int .i64 m] w fun e w' => e = .returned (.int .i64 m) ∧ w = w' := by
  go_enter Try.func70, Try.ntmps70
  go_wp2_with fail
  refine wp_loop_rounds 1 ?_
  rw [rounds_succ]
  go_wp2_with fail
  go_ret
  exact ⟨rfl, rfl⟩
set_option maxHeartbeats 1000000 in
theorem heldReqS_0 (a : Option Addr) (cap : Nat) (m : Int) (w : World) : Calls Try.prog 71 #[.slice a 0 cap, .int .i64 m] w fun e w' => e = .returned (.int .i64 m) ∧ w = w' := by
  go_enter Try.func71, Try.ntmps71
  go_wp2_with fail
  refine wp_loop_rounds 1 ?_
  rw [rounds_succ]
  go_wp2_with fail
  go_ret
  exact ⟨rfl, rfl⟩

/-- A row marked. -/
theorem markReqs_r {B n : Nat} {a : Option Addr} {zs : List Rq} (m : Int) (w : World) (h : Row w B 34 a n 5 Rq.cs zs) (hl : zs.length = n) (hm0 : 0 ≤ m) (hm1 : m ≤ 1099511627776) (hn : n ≤ 1099511627776) :
    Calls Try.prog 70 #[.slice a n n, .int .i64 m] w fun e w' => e = .returned (.int .i64 (m + ((n * 5 : Nat) : Int))) ∧ MarkedRow a n 5 m w w' := by
  by_cases hp : 0 < n
  · obtain ⟨g, rfl, hg, hc, hf⟩ := h.cellsOf hl five_len hp
    refine (markReqS_c g n n m w (Nat.le_refl _) hm0 hm1 hn hc hf).mono fun e w' ⟨he, hm, ho⟩ => ⟨he, fun g' hg' j hj => ?_, ?_, ho.size⟩
    · rw [hg] at hg'
      injection hg' with hg'
      subst hg'
      exact hm j hj
    · rw [hg]
      exact ho.grownBy
  · obtain rfl : n = 0 := by omega
    refine (markReqS_0 a 0 m w).mono fun e w' ⟨he, hw⟩ => ?_
    subst hw
    exact ⟨by simpa using he, fun g hg => by simp [rowBlk] at hg, World.grownBy.refl w _, rfl⟩
theorem heldReqs_r {B n : Nat} {a : Option Addr} {zs : List Rq} {w0 : World} (m : Int) (w : World) (h : Row w0 B 34 a n 5 Rq.cs zs) (hl : zs.length = n) (hc : ∀ g, rowBlk a n = some g → ∀ j, j < n * 5 → w.cell? ⟨g, j, none⟩ = some (.int .i64 (m + j))) (hm0 : 0 ≤ m) (hm1 : m ≤ 1099511627776) (hn : n ≤ 1099511627776) :
    Calls Try.prog 71 #[.slice a n n, .int .i64 m] w fun e w' => e = .returned (.int .i64 (m + ((n * 5 : Nat) : Int))) ∧ w = w' := by
  by_cases hp : 0 < n
  · obtain ⟨g, rfl, hg, _, _⟩ := h.cellsOf hl five_len hp
    exact heldReqS_c g n n m w (Nat.le_refl _) hm0 hm1 hn (hc g hg)
  · obtain rfl : n = 0 := by omega
    refine (heldReqS_0 a 0 m w).mono fun e w' ⟨he, hw⟩ => ⟨by simpa using he, hw⟩


set_option maxHeartbeats 4000000 in
theorem markEntS_c (f n cap : Nat) (m : Int) (w : World) (hlc : n ≤ cap) (hm0 : 0 ≤ m) (hm1 : m ≤ 1099511627776) (hn : n ≤ 1099511627776) (hc : ∀ j, j < n * 5 → ∃ v, w.cell? ⟨f, j, none⟩ = some v) (hf : ∀ j, w.frozen? ⟨f, j, none⟩ = false) :
    Calls Try.prog 102 #[.slice (some ⟨f, 0, none⟩) n cap, .int .i64 m] w fun e w' => e = .returned (.int .i64 (m + ((n * 5 : Nat) : Int))) ∧ (∀ j, j < n * 5 → w'.cell? ⟨f, j, none⟩ = some (.int .i64 (m + j))) ∧ OnlyBlock f w w' := by
  have HC := Lib.hid hc
  have HF := Lib.hid hf
  clear hc hf
  go_enter Try.func102, Try.ntmps102
  go_wp2_with fail
  go_loopw [1, 5] (fun s i wr => ∃ k : Nat, k ≤ n ∧ i = .int .i64 k ∧ s = .int .i64 (m + ((k * 5 : Nat) : Int)) ∧ (∀ j, j < k * 5 → wr.cell? ⟨f, j, none⟩ = some (.int .i64 (m + j))) ∧ (∀ j, k * 5 ≤ j → wr.cell? ⟨f, j, none⟩ = w.cell? ⟨f, j, none⟩) ∧ OnlyBlock f w wr) (fun _ i _ => n - (intOf i).toNat)
  case atStart => exact ⟨0, Nat.zero_le _, rfl, by simp, fun j hj => absurd hj (by omega), fun _ _ => rfl, OnlyBlock.refl _ _⟩
  case round =>
    obtain ⟨k, hk, rfl, rfl, h1, h2, hob⟩ := hrel
    have H1 := Lib.hid h1
    have H2 := Lib.hid h2
    clear h1 h2
    generalize hK5 : k * 5 = k5 at *
    by_cases hlt : k < n
    · have hk1 : (k : Int) < (n : Int) := by omega
      have hk0 : (0 : Int) ≤ (k : Int) := by omega
      have hcell : ∀ i, i < 5 → ∃ v, wr.cell? ⟨f, k5 + i, none⟩ = some v := fun i hi => by
        obtain ⟨v, hv⟩ := HC.out (k5 + i) (by omega)
        exact ⟨v, (H2.out _ (by omega)).trans hv⟩
      obtain ⟨v0, c0⟩ := hcell 0 (by decide)
      obtain ⟨v1, c1⟩ := hcell 1 (by decide)
      obtain ⟨v2, c2⟩ := hcell 2 (by decide)
      obtain ⟨v3, c3⟩ := hcell 3 (by decide)
      obtain ⟨v4, c4⟩ := hcell 4 (by decide)
      rw [Nat.add_zero] at c0
      have ff : ∀ j, wr.frozen? ⟨f, j, none⟩ = false := fun j => (hob.frozen j).trans (HF.out j)
      have hw1 : IntKind.i64.wrap (m + (k5 : Int) + 1) = m + (k5 : Int) + 1 := IntWalk.i64_in _ ⟨by omega, by omega⟩
      have hw2 : IntKind.i64.wrap (m + (k5 : Int) + 1 + 1) = m + (k5 : Int) + 1 + 1 := IntWalk.i64_in _ ⟨by omega, by omega⟩
      have hw3 : IntKind.i64.wrap (m + (k5 : Int) + 1 + 1 + 1) = m + (k5 : Int) + 1 + 1 + 1 := IntWalk.i64_in _ ⟨by omega, by omega⟩
      have hw4 : IntKind.i64.wrap (m + (k5 : Int) + 1 + 1 + 1 + 1) = m + (k5 : Int) + 1 + 1 + 1 + 1 := IntWalk.i64_in _ ⟨by omega, by omega⟩
      have hw5 : IntKind.i64.wrap (m + (k5 : Int) + 1 + 1 + 1 + 1 + 1) = m + (k5 : Int) + 1 + 1 + 1 + 1 + 1 := IntWalk.i64_in _ ⟨by omega, by omega⟩
      obtain ⟨W, hW, d0, d1, d2, d3, d4, dO, dB⟩ := five_stores wr f k5 (.int .i64 (m + (k5 : Int))) (.int .i64 (m + (k5 : Int) + 1)) (.int .i64 (m + (k5 : Int) + 1 + 1)) (.int .i64 (m + (k5 : Int) + 1 + 1 + 1)) (.int .i64 (m + (k5 : Int) + 1 + 1 + 1 + 1)) (by rw [c0]; rfl) (by rw [c1]; rfl) (by rw [c2]; rfl) (by rw [c3]; rfl) (by rw [c4]; rfl)
      have HW := Lib.hid hW
      have D := Lib.hid (And.intro d0 (And.intro d1 (And.intro d2 (And.intro d3 d4))))
      have DO := Lib.hid dO
      clear hW d0 d1 d2 d3 d4 dO hcell
      go_wp2_with fail
      go_roundw
      case rel =>
        rw [← HW.out]
        refine ⟨k + 1, by omega, by go_num, by go_num, fun j hj => ?_, fun j hj => ?_, hob.trans dB⟩
        · by_cases h5 : j < k5
          · exact (DO.out j (.inl h5)).trans (H1.out j h5)
          · obtain ⟨d0, d1, d2, d3, d4⟩ := D.out
            rcases (show j = k5 ∨ j = k5 + 1 ∨ j = k5 + 2 ∨ j = k5 + 3 ∨ j = k5 + 4 by omega) with rfl | rfl | rfl | rfl | rfl
            · exact d0
            · exact d1.trans (by go_num)
            · exact d2.trans (by go_num)
            · exact d3.trans (by go_num)
            · exact d4.trans (by go_num)
        · exact (DO.out j (.inr (by omega))).trans (H2.out j (by omega))
      case measure => simp [intOf]; omega
    · have hkk : n = k := by omega
      subst hkk
      subst hK5
      go_wp2_with fail
      go_ret
      exact ⟨rfl, H1.out, hob⟩

set_option maxHeartbeats 4000000 in
theorem heldEntS_c (f n cap : Nat) (m : Int) (w : World) (hlc : n ≤ cap) (hm0 : 0 ≤ m) (hm1 : m ≤ 1099511627776) (hn : n ≤ 1099511627776) (hc : ∀ j, j < n * 5 → w.cell? ⟨f, j, none⟩ = some (.int .i64 (m + j))) :
    Calls Try.prog 103 #[.slice (some ⟨f, 0, none⟩) n cap, .int .i64 m] w fun e w' => e = .returned (.int .i64 (m + ((n * 5 : Nat) : Int))) ∧ w = w' := by
  have HC := Lib.hid hc
  clear hc
  go_enter Try.func103, Try.ntmps103
  go_wp2_with fail
  go_loop [1, 5] (fun s i => ∃ k : Nat, k ≤ n ∧ i = .int .i64 k ∧ s = .int .i64 (m + ((k * 5 : Nat) : Int))) (fun _ i => n - (intOf i).toNat)
  case atStart => exact ⟨0, Nat.zero_le _, rfl, by simp⟩
  case round =>
    obtain ⟨k, hk, rfl, rfl⟩ := hrel
    generalize hK5 : k * 5 = k5 at *
    by_cases hlt : k < n
    · have hk1 : (k : Int) < (n : Int) := by omega
      have hk0 : (0 : Int) ≤ (k : Int) := by omega
      have c0 := HC.out k5 (by omega)
      have c1 : w.cell? ⟨f, k5 + 1, none⟩ = some (.int .i64 (m + (k5 : Int) + 1)) := (HC.out (k5 + 1) (by omega)).trans (by go_num)
      have c2 : w.cell? ⟨f, k5 + 2, none⟩ = some (.int .i64 (m + (k5 : Int) + 1 + 1)) := (HC.out (k5 + 2) (by omega)).trans (by go_num)
      have c3 : w.cell? ⟨f, k5 + 3, none⟩ = some (.int .i64 (m + (k5 : Int) + 1 + 1 + 1)) := (HC.out (k5 + 3) (by omega)).trans (by go_num)
      have c4 : w.cell? ⟨f, k5 + 4, none⟩ = some (.int .i64 (m + (k5 : Int) + 1 + 1 + 1 + 1)) := (HC.out (k5 + 4) (by omega)).trans (by go_num)
      have hw1 : IntKind.i64.wrap (m + (k5 : Int) + 1) = m + (k5 : Int) + 1 := IntWalk.i64_in _ ⟨by omega, by omega⟩
      have hw2 : IntKind.i64.wrap (m + (k5 : Int) + 1 + 1) = m + (k5 : Int) + 1 + 1 := IntWalk.i64_in _ ⟨by omega, by omega⟩
      have hw3 : IntKind.i64.wrap (m + (k5 : Int) + 1 + 1 + 1) = m + (k5 : Int) + 1 + 1 + 1 := IntWalk.i64_in _ ⟨by omega, by omega⟩
      have hw4 : IntKind.i64.wrap (m + (k5 : Int) + 1 + 1 + 1 + 1) = m + (k5 : Int) + 1 + 1 + 1 + 1 := IntWalk.i64_in _ ⟨by omega, by omega⟩
      have hw5 : IntKind.i64.wrap (m + (k5 : Int) + 1 + 1 + 1 + 1 + 1) = m + (k5 : Int) + 1 + 1 + 1 + 1 + 1 := IntWalk.i64_in _ ⟨by omega, by omega⟩
      go_wp2_with fail
      go_round
      case rel => exact ⟨k + 1, by omega, by go_num, by go_num⟩
      case measure => simp [intOf]; omega
    · have hkk : n = k := by omega
      subst hkk
      subst hK5
      go_wp2_with fail
      go_ret
      exact ⟨rfl, rfl⟩

set_option maxHeartbeats 1000000 in
theorem markEntS_0 (a : Option Addr) (cap : Nat) (m : Int) (w : World) : Calls Try.prog 102 #[.slice a 0 cap, .int .i64 m] w fun e w' => e = .returned (.int .i64 m) ∧ w = w' := by
  go_enter Try.func102, Try.ntmps102
  go_wp2_with fail
  refine wp_loop_rounds 1 ?_
  rw [rounds_succ]
  go_wp2_with fail
  go_ret
  exact ⟨rfl, rfl⟩
set_option maxHeartbeats 1000000 in
theorem heldEntS_0 (a : Option Addr) (cap : Nat) (m : Int) (w : World) : Calls Try.prog 103 #[.slice a 0 cap, .int .i64 m] w fun e w' => e = .returned (.int .i64 m) ∧ w = w' := by
  go_enter Try.func103, Try.ntmps103
  go_wp2_with fail
  refine wp_loop_rounds 1 ?_
  rw [rounds_succ]
  go_wp2_with fail
  go_ret
  exact ⟨rfl, rfl⟩

/-- A row marked. -/
theorem markEnts_r {B n : Nat} {a : Option Addr} {zs : List Rq} (m : Int) (w : World) (h : Row w B 92 a n 5 Rq.cs zs) (hl : zs.length = n) (hm0 : 0 ≤ m) (hm1 : m ≤ 1099511627776) (hn : n ≤ 1099511627776) :
    Calls Try.prog 102 #[.slice a n n, .int .i64 m] w fun e w' => e = .returned (.int .i64 (m + ((n * 5 : Nat) : Int))) ∧ MarkedRow a n 5 m w w' := by
  by_cases hp : 0 < n
  · obtain ⟨g, rfl, hg, hc, hf⟩ := h.cellsOf hl five_len hp
    refine (markEntS_c g n n m w (Nat.le_refl _) hm0 hm1 hn hc hf).mono fun e w' ⟨he, hm, ho⟩ => ⟨he, fun g' hg' j hj => ?_, ?_, ho.size⟩
    · rw [hg] at hg'
      injection hg' with hg'
      subst hg'
      exact hm j hj
    · rw [hg]
      exact ho.grownBy
  · obtain rfl : n = 0 := by omega
    refine (markEntS_0 a 0 m w).mono fun e w' ⟨he, hw⟩ => ?_
    subst hw
    exact ⟨by simpa using he, fun g hg => by simp [rowBlk] at hg, World.grownBy.refl w _, rfl⟩
theorem heldEnts_r {B n : Nat} {a : Option Addr} {zs : List Rq} {w0 : World} (m : Int) (w : World) (h : Row w0 B 92 a n 5 Rq.cs zs) (hl : zs.length = n) (hc : ∀ g, rowBlk a n = some g → ∀ j, j < n * 5 → w.cell? ⟨g, j, none⟩ = some (.int .i64 (m + j))) (hm0 : 0 ≤ m) (hm1 : m ≤ 1099511627776) (hn : n ≤ 1099511627776) :
    Calls Try.prog 103 #[.slice a n n, .int .i64 m] w fun e w' => e = .returned (.int .i64 (m + ((n * 5 : Nat) : Int))) ∧ w = w' := by
  by_cases hp : 0 < n
  · obtain ⟨g, rfl, hg, _, _⟩ := h.cellsOf hl five_len hp
    exact heldEntS_c g n n m w (Nat.le_refl _) hm0 hm1 hn (hc g hg)
  · obtain rfl : n = 0 := by omega
    refine (heldEntS_0 a 0 m w).mono fun e w' ⟨he, hw⟩ => ⟨by simpa using he, hw⟩


set_option maxHeartbeats 1000000 in
theorem markIntS_0 (a : Option Addr) (cap : Nat) (m : Int) (w : World) : Calls Try.prog 49 #[.slice a 0 cap, .int .i64 m] w fun e w' => e = .returned (.int .i64 m) ∧ w = w' := by
  go_enter Try.func49, Try.ntmps49
  go_wp2_with fail
  refine wp_loop_rounds 1 ?_
  rw [rounds_succ]
  go_wp2_with fail
  go_ret
  exact ⟨rfl, rfl⟩
set_option maxHeartbeats 1000000 in
theorem heldIntS_0 (a : Option Addr) (cap : Nat) (m : Int) (w : World) : Calls Try.prog 50 #[.slice a 0 cap, .int .i64 m] w fun e w' => e = .returned (.int .i64 m) ∧ w = w' := by
  go_enter Try.func50, Try.ntmps50
  go_wp2_with fail
  refine wp_loop_rounds 1 ?_
  rw [rounds_succ]
  go_wp2_with fail
  go_ret
  exact ⟨rfl, rfl⟩
theorem markInt_r {B n : Nat} {a : Option Addr} {zs : List Int} (m : Int) (w : World) (h : Row w B 3 a n 1 intR zs) (hl : zs.length = n) (hm0 : 0 ≤ m) (hm1 : m ≤ 1099511627776) (hn : n ≤ 1099511627776) :
    Calls Try.prog 49 #[.slice a n n, .int .i64 m] w fun e w' => e = .returned (.int .i64 (m + (n : Int))) ∧ MarkedRow a n 1 m w w' := by
  by_cases hp : 0 < n
  · obtain ⟨g, rfl, hg, hc, hf⟩ := h.cellsOf hl int_len hp
    refine (markIntS_c g n n m w (Nat.le_refl _) hm0 hm1 hn (fun j hj => hc j (by omega)) (fun j _ => hf j)).mono fun e w' ⟨he, hm, ho⟩ => ⟨he, fun g' hg' j hj => ?_, ?_, ho.size⟩
    · rw [hg] at hg'
      injection hg' with hg'
      subst hg'
      exact hm j (by omega)
    · rw [hg]
      exact ho.grownBy
  · obtain rfl : n = 0 := by omega
    refine (markIntS_0 a 0 m w).mono fun e w' ⟨he, hw⟩ => ?_
    subst hw
    exact ⟨by simpa using he, fun g hg => by simp [rowBlk] at hg, World.grownBy.refl w _, rfl⟩
theorem heldInt_r {B n : Nat} {a : Option Addr} {zs : List Int} {w0 : World} (m : Int) (w : World) (h : Row w0 B 3 a n 1 intR zs) (hl : zs.length = n) (hc : ∀ g, rowBlk a n = some g → ∀ j, j < n * 1 → w.cell? ⟨g, j, none⟩ = some (.int .i64 (m + j))) (hm0 : 0 ≤ m) (hm1 : m ≤ 1099511627776) (hn : n ≤ 1099511627776) :
    Calls Try.prog 50 #[.slice a n n, .int .i64 m] w fun e w' => e = .returned (.int .i64 (m + (n : Int))) ∧ w = w' := by
  by_cases hp : 0 < n
  · obtain ⟨g, rfl, hg, _, _⟩ := h.cellsOf hl int_len hp
    exact heldIntS_c g n n m w (Nat.le_refl _) hm0 hm1 hn (fun j hj => hc g hg j (by omega))
  · obtain rfl : n = 0 := by omega
    refine (heldIntS_0 a 0 m w).mono fun e w' ⟨he, hw⟩ => ⟨by simpa using he, hw⟩
end Go.Proofs.Ytofedboeggdkaaa

/-! Contracts of markAhead, heldAhead over rows of the program's own; condition: small numbers. -/
namespace Go.Proofs.Ytofedboeggdkaaa
open Go.RowKit Go.Joins

/-- Blocks that are old and not among p are as they were. -/
structure Turned (p : Nat → Prop) (w w' : World) : Prop where
  os : w'.os = w.os
  tape : w'.tape = w.tape
  output : w'.output = w.output
  size : w.heap.size ≤ w'.heap.size
  block : ∀ b, b < w.heap.size → ¬ p b → w'.heap[b]? = w.heap[b]?
section
variable {p q : Nat → Prop} {a b c w w' : World}
theorem Turned.refl (p : Nat → Prop) (w : World) : Turned p w w := ⟨rfl, rfl, rfl, Nat.le_refl _, fun _ _ _ => rfl⟩
theorem Turned.trans (h : Turned p a b) (k : Turned p b c) : Turned p a c :=
  ⟨k.os.trans h.os, k.tape.trans h.tape, k.output.trans h.output, Nat.le_trans h.size k.size, fun i hi hp => (k.block i (Nat.lt_of_lt_of_le hi h.size) hp).trans (h.block i hi hp)⟩
theorem Turned.mono (h : Turned p w w') (hq : ∀ b, p b → q b) : Turned q w w' := ⟨h.os, h.tape, h.output, h.size, fun b hb hp => h.block b hb (fun h => hp (hq b h))⟩
theorem Turned.ofBelow (p : Nat → Prop) (h : Below w.heap.size w w') : Turned p w w' := ⟨h.os, h.tape, h.output, h.size, fun b hb _ => h.block b hb⟩
theorem Turned.ofGrown {row : Option Nat} (h : w.grownBy w' row) : Turned (fun b => row = some b) w w' := ⟨h.os, h.tape, h.output, h.size, fun b hb hp => h.block b hb (fun e => hp e.symm)⟩
theorem Turned.below (h : Turned p w w') {B : Nat} (hB : B ≤ w.heap.size) (hp : ∀ b, p b → B ≤ b) : Below B w w' := ⟨h.os, h.tape, h.output, h.size, fun b hb => h.block b (by omega) (fun k => by have := hp b k; omega)⟩
theorem Row.turned {α : Type} {B e cap k : Nat} {x : Option Addr} {R : α → List Value} {zs : List α} (h : Row w B e x cap k R zs) (t : Turned p w w') (hp : ∀ g, rowBlk x cap = some g → ¬ p g) : Row w' B e x cap k R zs :=
  ⟨h.len, h.max, fun hc => by
    obtain ⟨g, cur, rfl, h2, h3, h4⟩ := h.own hc
    refine ⟨g, cur, rfl, h2, ?_, h4⟩
    rw [t.block g (lt_of_block h3) (hp g (by simp [rowBlk]; omega))]
    exact h3⟩
end

/-! Walking a region by hand: what is left open at its end, once for all orders. -/
structure Xs where
  v0 : Value
  v1 : Value
  v2 : Value
  a0 : Option Addr
  a1 : Option Addr
  a2 : Option Addr
  c0 : Nat
  c1 : Nat
  c2 : Nat
  x : Nat
theorem introFin2 {X : Type} {P : Program} {md : Region.Mode} {ops : Array Oper} {Q : Exit → Act → World → Prop} {S : World → Prop} {fuel0 : Nat} {listed0 : Array Bool} {T0 : Array Value} {w0 : World} (fuel : Nat) (listed : Array Bool) (F : X → Array Value → Array Value) (C : X → World → Prop)
    (hfin : ∀ x w', C x w' → wpAnyH P md ops Q S fuel listed ⟨F x T0, []⟩ w')
    (h : (∀ x w' l a, l = listed → a = ⟨F x T0, []⟩ → C x w' → wpAnyH P md ops Q S fuel l a w') → wpAnyH P md ops Q S fuel0 listed0 ⟨T0, []⟩ w0) : wpAnyH P md ops Q S fuel0 listed0 ⟨T0, []⟩ w0 :=
  h fun x w' _ _ e1 e2 c => e1 ▸ e2 ▸ hfin x w' c
theorem step_alloc {P : Program} {ops : Array Oper} {o : Oper} {ac : Act} {w : World} {K : Act → World → Prop} {Q : Exit → Act → World → Prop} {E : Prop} (hgd : o.guard = none) {t : TypeId} (ho : o.op = .alloc t) {z : Value} {cs : Array Value} (hiz : (P.info? t).map (·.zero) = some (some z)) (hcs : z.cells = cs)
    (h : K (ac.put o.dst (.pointer (some ⟨w.heap.size, 0, none⟩))) (w.alloc (.cells cs t))) :
    if Region.wanted o (yielded ops ac.tmps) = true then Oper.wp P o ac w K Q else E := by
  have hw : Region.wanted o (yielded ops ac.tmps) = true := by simp [Region.wanted, hgd]
  rw [if_pos hw]
  obtain ⟨i, hi, hz⟩ : ∃ i, P.info? t = some i ∧ i.zero = some z := by
    cases hi : P.info? t with
    | none => rw [hi] at hiz; cases hiz
    | some i => rw [hi] at hiz; exact ⟨i, rfl, by simpa using hiz⟩
  unfold Oper.wp
  subst hcs
  simp [execOp, ho, Result.andThen, Instr.alloc, zeroValue, typeInfo, hi, hz]
  exact h
theorem carryN {w w1 : World} {b : Nat} {o : Obj} (k : Below w.heap.size w w1) (h : w.heap[b]? = some o) : w1.heap[b]? = some o := (k.block b (Array.getElem?_eq_some_iff.1 h).1).trans h
theorem carryT {p : Nat → Prop} {w w1 : World} {b : Nat} {o : Obj} (k : Turned p w w1) (h : w.heap[b]? = some o) (hp : ¬ p b) : w1.heap[b]? = some o := (k.block b (Array.getElem?_eq_some_iff.1 h).1 hp).trans h

theorem rowBlk_some {g o n b : Nat} {s : Option Nat} (h : rowBlk (some ⟨g, o, s⟩) n = some b) : b = g := by
  unfold rowBlk at h
  split at h
  · cases h
  · simpa using h.symm
theorem Row.of_block {α : Type} {w : World} {B g e k : Nat} {R : α → List Value} {zs : List α} (hR : ∀ z, (R z).length = k) (h : w.heap[g]? = some (.cells (flat R zs) e (0, 0))) (hB : B ≤ g) (hn : zs.length ≤ maxLen) : Row w B e (some ⟨g, 0, none⟩) zs.length k R zs :=
  ⟨Nat.le_refl _, hn, fun _ => ⟨g, _, rfl, hB, h, Nat.le_of_eq (flat_size hR zs).symm, fun _ _ => rfl⟩⟩
/-- Numbered cells, as they stand now. -/
def Marks (w : World) (a : Option Addr) (n k : Nat) (m : Int) : Prop := ∀ g, rowBlk a n = some g → g < w.heap.size ∧ ∀ j, j < n * k → w.cell? ⟨g, j, none⟩ = some (.int .i64 (m + j))
theorem Marks.below {w w' : World} {a : Option Addr} {n k : Nat} {m : Int} (h : Marks w a n k m) (b : Below w.heap.size w w') : Marks w' a n k m := fun g hg =>
  ⟨Nat.lt_of_lt_of_le (h g hg).1 b.size, fun j hj => (b.cell (p := ⟨g, j, none⟩) (h g hg).1).trans ((h g hg).2 j hj)⟩

set_option maxHeartbeats 1000000 in
theorem markAhead_r {B0 B1 n0 n1 : Nat} {a0 a1 : Option Addr} {zs ys : List Rq} (bk m : Int) (w : World) (r0 : Row w B0 34 a0 n0 5 Rq.cs zs) (r1 : Row w B1 34 a1 n1 5 Rq.cs ys) (hap : ∀ g, rowBlk a0 n0 = some g → rowBlk a1 n1 ≠ some g)
    (hl0 : zs.length = n0) (hl1 : ys.length = n1) (hm0 : 0 ≤ m) (hm1 : m ≤ 1048576) (hs0 : n0 ≤ 2097152) (hs1 : n1 ≤ 2097152) :
    Calls Try.prog 21 #[.agg #[.slice a0 n0 n0, .slice a1 n1 n1, .int .i64 bk], .int .i64 m] w fun e w' =>
      e = .returned (.int .i64 (m + ((n0 * 5 : Nat) : Int) + ((n1 * 5 : Nat) : Int))) ∧ Marks w' a0 n0 5 m ∧ Marks w' a1 n1 5 (m + ((n0 * 5 : Nat) : Int)) ∧ Turned (fun b => rowBlk a0 n0 = some b ∨ rowBlk a1 n1 = some b) w w' := by
  have R0 := Lib.hid r0
  have R1 := Lib.hid r1
  have HAP := Lib.hid hap
  clear r0 r1 hap
  go_enter Try.func21, Try.ntmps21
  go_wp2_with fail
  obtain ⟨W, hW, sW, aW, kW⟩ := blocks1 w (.cells #[.slice a0 n0 n0, .slice a1 n1 n1, .int .i64 bk] 30)
  rw [← hW]
  clear hW
  refine (markReqs_r m W (R0.out.below kW) hl0 hm0 (by omega) (by omega)).mono ?_
  rintro e w1 ⟨rfl, m1⟩
  have a1' := (m1.grown.block w.heap.size (by omega) (fun e => by have := (R0.out.blk e.symm).2; omega)).trans aW
  have hc1 := cell_of_block a1'
  have R11 := Lib.hid ((R1.out.below kW).kept m1.grown (fun g hg e => HAP.out g e hg))
  have M1 := Lib.hid m1
  clear m1 aW
  go_wp2_with fail
  refine (markReqs_r (m + ((n0 * 5 : Nat) : Int)) w1 R11.out hl1 (by omega) (by omega) (by omega)).mono ?_
  rintro e w2 ⟨rfl, m2⟩
  have M2 := Lib.hid m2
  clear m2 hc1 a1'
  go_wp2_with fail
  go_ret
  refine ⟨rfl, fun g hg => ?_, fun g hg => ⟨?_, M2.out.cells g hg⟩, ?_⟩
  · have hne : some g ≠ rowBlk a1 n1 := fun e => HAP.out g hg e.symm
    have hlt : g < w1.heap.size := by rw [M1.out.size]; have := (R0.out.blk hg).2; omega
    have := M2.out.grown.block g hlt hne
    refine ⟨by rw [M2.out.size]; exact hlt, fun j hj => ?_⟩
    rw [World.cell?_of_block (w := w1) (a := ⟨g, j, none⟩) this]
    exact M1.out.cells g hg j hj
  · rw [M2.out.size]; exact (R11.out.blk hg).2
  · exact ((Turned.ofBelow _ kW).trans ((Turned.ofGrown M1.out.grown).mono fun b hb => .inl hb)).trans ((Turned.ofGrown M2.out.grown).mono fun b hb => .inr hb)

set_option maxHeartbeats 1000000 in
theorem heldAhead_r {B0 B1 n0 n1 : Nat} {a0 a1 : Option Addr} {zs ys : List Rq} {v0 v1 : World} (bk m : Int) (w : World) (r0 : Row v0 B0 34 a0 n0 5 Rq.cs zs) (r1 : Row v1 B1 34 a1 n1 5 Rq.cs ys)
    (hl0 : zs.length = n0) (hl1 : ys.length = n1) (hc0 : Marks w a0 n0 5 m) (hc1 : Marks w a1 n1 5 (m + ((n0 * 5 : Nat) : Int)))
    (hm0 : 0 ≤ m) (hm1 : m ≤ 1048576) (hs0 : n0 ≤ 2097152) (hs1 : n1 ≤ 2097152) :
    Calls Try.prog 22 #[.agg #[.slice a0 n0 n0, .slice a1 n1 n1, .int .i64 bk], .int .i64 m] w fun e w' =>
      e = .returned (.int .i64 (m + ((n0 * 5 : Nat) : Int) + ((n1 * 5 : Nat) : Int))) ∧ Below w.heap.size w w' := by
  have R0 := Lib.hid r0
  have R1 := Lib.hid r1
  have C0 := Lib.hid hc0
  have C1 := Lib.hid hc1
  clear r0 r1 hc0 hc1
  have hp0 : ¬ (m + ((n0 * 5 : Nat) : Int)) < 0 := by omega
  have hp1 : ¬ (m + ((n0 * 5 : Nat) : Int) + ((n1 * 5 : Nat) : Int)) < 0 := by omega
  go_enter Try.func22, Try.ntmps22
  go_wp2_with fail
  obtain ⟨W, hW, sW, aW, kW⟩ := blocks1 w (.cells #[.slice a0 n0 n0, .slice a1 n1 n1, .int .i64 bk] 30)
  rw [← hW]
  clear hW
  have hcW := cell_of_block aW
  refine (heldReqs_r m W R0.out hl0 (fun g hg => ((C0.out.below kW) g hg).2) hm0 (by omega) (by omega)).mono ?_
  rintro e w1 ⟨rfl, rfl⟩
  go_wp2_with fail
  refine (heldReqs_r (m + ((n0 * 5 : Nat) : Int)) W R1.out hl1 (fun g hg => ((C1.out.below kW) g hg).2) (by omega) (by omega) (by omega)).mono ?_
  rintro e w1 ⟨rfl, rfl⟩
  go_wp2_with fail
  go_ret
  exact ⟨rfl, kW⟩
end Go.Proofs.Ytofedboeggdkaaa

/-! slices.Delete of one element, at lists of asks and of figures; condition: small sizes. -/
namespace Go.Proofs.Ytofedboeggdkaaa
open Go.RowKit Go.Joins

section
variable {α : Type} {w w' : World} {B : Nat} {e : TypeId} {a : Option Addr} {cap k : Nat} {R : α → List Value} {zs : List α}
theorem Row.take (h : Row w B e a cap k R zs) (hR : ∀ z, (R z).length = k) (i : Nat) : Row w B e a cap k R (zs.take i) :=
  ⟨Nat.le_trans (by rw [List.length_take]; exact Nat.min_le_right _ _) h.len, h.max, fun hc => by
    obtain ⟨g, cur, h1, h2, h3, h4, h5⟩ := h.own hc
    refine ⟨g, cur, h1, h2, h3, h4, fun j hj => ?_⟩
    have hle : (zs.take i).length * k ≤ zs.length * k := Nat.mul_le_mul_right k (by rw [List.length_take]; exact Nat.min_le_right _ _)
    rw [h5 j (by omega)]
    have e1 : flat R zs = flat R (zs.take i) ++ flat R (zs.drop i) := by rw [← flat_append, List.take_append_drop]
    rw [e1, Array.getElem?_append_left (by rw [flat_size hR]; exact hj)]⟩
theorem RowsAt.drop {g off : Nat} (h : RowsAt w (some ⟨g, off, none⟩) k R zs) (i : Nat) : RowsAt w (some ⟨g, off + i * k, none⟩) k R (zs.drop i) := by
  intro j hj
  rw [List.length_drop] at hj
  obtain ⟨b, o, q, hb, hc⟩ := h (i + j) (by omega)
  injection q with q
  injection q with q1 q2
  subst q1 q2
  refine ⟨g, off + i * k, rfl, hb, fun t ht => ?_⟩
  have := hc t ht
  rw [Nat.add_mul] at this
  rw [List.getElem_drop, ← this]
  congr 2
  omega
theorem RowsAt.empty (w : World) (a : Option Addr) (k : Nat) (R : α → List Value) : RowsAt w a k R [] := fun i hi => absurd hi (Nat.not_lt_zero i)

/-- The cells of one element behind the row set to zero. -/
theorem wpList_clear_row {P : Program} {ops : Array Oper} {rest : List Oper} {o : Oper} {ac : Act} {Q : Exit → Act → World → Prop} (hgd : o.guard = none) (x : Operand) {t : TypeId} (ho : o.op = .call { callee := .builtin .clear, args := #[x], argTypes := #[t] })
    {bytes : Nat} (el : Elt P t e k bytes R) {i : Nat} {c : Nat} {g : Nat} (hx : ac.eval x = .slice (some ⟨g, i * k, none⟩) 1 c) (hrow : Row w B e (some ⟨g, 0, none⟩) cap k R zs) (hi : zs.length ≤ i) (hic : i < cap) (hzone : ∀ z v, P.info? e = some z → z.zero = some v → ∀ u ∈ v.cells.toList, u.oneCell' = true)
    (h : ∀ w', Row w' B e (some ⟨g, 0, none⟩) cap k R zs → w.grownBy w' (some g) → wpList P ops Q rest (ac.put o.dst (.tuple #[])) w') : wpList P ops Q (o :: rest) ac w := by
  refine wpList_plain hgd fun K hK => ?_
  obtain ⟨inf, z, h1, h2, h3, h4, h5⟩ := el.info
  obtain ⟨g', cur, q, hBg, hg, hcs, hcur⟩ := hrow.own (by omega)
  injection q with q
  injection q with q1
  subst q1
  have hzc : (Builtin.zeroCells z.cells 1).toList = z.cells.toList := by
    apply List.ext_getElem
    · simp [Builtin.zeroCells]
    · intro j hj1 hj2
      have hj : j < z.cells.size := by simpa using hj2
      simp [Builtin.zeroCells, Nat.mod_eq_of_lt hj, hj]
  have hmul : (i + 1) * k ≤ cap * k := Nat.mul_le_mul_right k hic
  rw [Nat.add_mul, Nat.one_mul] at hmul
  have hmul2 : zs.length * k ≤ i * k := Nat.mul_le_mul_right k hi
  have hst := run_storeCells_at P g (i * k) e z.cells.toList 0 cur w hg (by simp [h5]; omega) (hzone inf z h1 h2)
  simp only [Nat.add_zero] at hst
  unfold Oper.wp
  simp [execOp, ho, resolve, invoke, builtin, hx, Result.andThen, Builtin.clear_, run_underlying el.under, zeroValue, typeInfo, h1, h2, hzc, hst]
  refine hK _ _ (h _ ⟨hrow.len, hrow.max, fun _ => ⟨g, _, rfl, hBg, setRow_heap w g cur _ e _ hg, ?_, fun j hj => ?_⟩⟩ ⟨rfl, rfl, rfl, by simp [World.setRow], fun b _ hne => setRow_other w g b _ (fun e => hne (by rw [e]))⟩)
  · simp only [List.size_toArray, List.length_append, List.length_take, List.length_drop, Array.length_toList]
    rw [Nat.min_eq_left (by omega)]
    omega
  · rw [← hcur j hj, List.getElem?_toArray, List.getElem?_append_left (by simp only [List.length_take, Array.length_toList]; omega), List.getElem?_take_of_lt (by omega), Array.getElem?_toList]
end

theorem grownBy_trans {w w1 w2 : World} {row : Option Nat} (h : w.grownBy w1 row) (k : w1.grownBy w2 row) : w.grownBy w2 row :=
  ⟨k.os.trans h.os, k.tape.trans h.tape, k.output.trans h.output, Nat.le_trans h.size k.size, fun b hb hne => (k.block b (Nat.lt_of_lt_of_le hb h.size) hne).trans (h.block b hb hne)⟩

set_option maxRecDepth 100000 in
theorem zoneReq : ∀ z v, Try.prog.info? 34 = some z → z.zero = some v → ∀ u ∈ v.cells.toList, u.oneCell' = true := by
  intro z v h1 h2
  have h : (Try.prog.info? 34).map (·.zero) = some (some (.agg #[.int .i64 0, .int .i64 0, .int .i64 0, .int .i64 0, .int .i64 0])) := by kernel_rfl
  rw [h1] at h
  simp only [Option.map_some, Option.some.injEq] at h
  rw [h2] at h
  injection h with h
  subst h
  intro u hu
  simp [Value.cells] at hu
  subst hu
  rfl
set_option maxRecDepth 100000 in
set_option maxHeartbeats 4000000 in
theorem slDeleteReq_c {B n cap i : Nat} {a : Option Addr} {zs : List Rq} (w : World) (h : Row w B 34 a cap 5 Rq.cs zs) (hn : zs.length = n) (hi : i < n) (hs : n ≤ 16777216) :
    Calls Try.prog 76 #[.slice a n cap, .int .i64 i, .int .i64 ((i : Int) + 1)] w fun e w' => e = .returned (.slice a (n - 1 : Nat) cap) ∧ Row w' B 34 a cap 5 Rq.cs (zs.eraseIdx i) ∧ w.grownBy w' (rowBlk a cap) := by
  have hlen := h.len
  have hmax := h.max
  have H := Lib.hid h
  obtain ⟨g, cur, rfl, -⟩ := h.own (by omega)
  clear h
  unfold maxLen at hmax
  have h1 : (0 : Int) ≤ (i : Int) := by omega
  have h2 : ((i : Int) + 1) ≤ (n : Int) := by omega
  have h3 : ¬ ((i : Int) = (i : Int) + 1) := by omega
  have h4 : (i : Int) ≤ (cap : Int) := by omega
  have h5 : (i : Int) + 1 ≤ (cap : Int) := by omega
  have h6 : ¬ cap = 0 := by omega
  have h8 : (i : Int) < (n : Int) := by omega
  have h9 : i + 1 ≤ n := by omega
  have h10 : (0 : Int) ≤ (i : Int) + 1 := by omega
  go_enter Try.func76, Try.ntmps76
  go_wp2_with fail
  by_cases h7 : cap = i + 1
  case neg =>
    refine wp_region_held_drew (S := fun _ => True) (by kernel_rfl) trivial (fun hHeld => ?_)
    refine wpAnyH_take (i := 0) (oi := _) (v := ?_) (by (simp only [List.getElem?_toArray]; rfl)) (by kernel_rfl) (by kernel_rfl) (by kernel_rfl) (by exact fun _ _ _ h => h) (Or.inl ⟨by rfl, ?_⟩) (by assumption) ?_
    rotate_left
    · intro wS hSw
      go_simp
      all_goals first | with_reducible rfl | rw [if_neg (by omega)]
    simp only [Act.put, List.setIfInBounds_toArray, List.set]
    refine wpAnyH_take (i := 1) (oi := _) (v := ?_) (by (simp only [List.getElem?_toArray]; rfl)) (by kernel_rfl) (by kernel_rfl) (by kernel_rfl) (by exact fun _ _ _ h => h) (Or.inl ⟨by rfl, ?_⟩) (by assumption) ?_
    rotate_left
    · intro wS hSw
      go_simp
      all_goals first | with_reducible rfl | rw [if_neg (by omega)]
    simp only [Act.put, List.setIfInBounds_toArray, List.set]
    refine wpAnyH_take (i := 2) (oi := _) (v := ?_) (by (simp only [List.getElem?_toArray]; rfl)) (by kernel_rfl) (by kernel_rfl) (by kernel_rfl) (by exact fun _ _ _ h => h) (Or.inl ⟨by rfl, ?_⟩) (by assumption) ?_
    rotate_left
    · intro wS hSw
      go_simp
      all_goals first | with_reducible rfl | rw [if_neg (by omega)]
    simp only [Act.put, List.setIfInBounds_toArray, List.set]
    refine wpAnyH_take (i := 3) (oi := _) (v := ?_) (by (simp only [List.getElem?_toArray]; rfl)) (by kernel_rfl) (by kernel_rfl) (by kernel_rfl) (by exact fun _ _ _ h => h) (Or.inl ⟨by rfl, ?_⟩) (by assumption) ?_
    rotate_left
    · intro wS hSw
      go_simp
      all_goals first | with_reducible rfl | rw [if_neg (by omega)]
    simp only [Act.put, List.setIfInBounds_toArray, List.set]
    refine wpAnyH_take (i := 4) (oi := _) (v := ?_) (by (simp only [List.getElem?_toArray]; rfl)) (by kernel_rfl) (by kernel_rfl) (by kernel_rfl) (by exact fun _ _ _ h => h) (Or.inl ⟨by rfl, ?_⟩) (by assumption) ?_
    rotate_left
    · intro wS hSw
      go_simp
      all_goals first | with_reducible rfl | rw [if_neg (by omega)]
    simp only [Act.put, List.setIfInBounds_toArray, List.set]
    refine wpAnyH_take (i := 5) (oi := _) (v := ?_) (by (simp only [List.getElem?_toArray]; rfl)) (by kernel_rfl) (by kernel_rfl) (by kernel_rfl) (by exact fun _ _ _ h => h) (Or.inl ⟨by rfl, ?_⟩) (by assumption) ?_
    rotate_left
    · intro wS hSw
      go_simp
      all_goals first | with_reducible rfl | rw [if_neg (by omega)]
    simp only [Act.put, List.setIfInBounds_toArray, List.set]
    refine wpAnyH_ready (rs := [6]) (by kernel_rfl) (by simp) ?_
    refine AllReadyH.cons (o := _) (by (simp only [List.getElem?_toArray]; rfl)) (fun K hK => ?_) AllReadyH.nil
    refine step_append_elt (by rfl) (.tmp 22) (.tmp 25) (by rfl) (n - 1) eltReq (by rfl) (by rfl) (H.out.take five_len i).drew (ys := zs.drop (i + 1)) ((H.out.rows five_len).drop (i + 1) |> fun q => by simpa using q.below (Below.drew (Below.refl _ _))) (by rw [List.length_take]; omega) (by rw [List.length_drop]; omega) (by omega) (by simp only [maxLen]; omega) (by omega) (Row.blk H.out (g := g) (by simp [rowBlk]; omega) |> fun q => Nat.le_trans q.1 (Nat.le_of_lt q.2)) ?_
    intro a' c' w1 q1
    have hst := q1.stay (by rw [List.length_append, List.length_take, List.length_drop]; omega)
    obtain ⟨rfl, rfl⟩ := hst
    refine hK.out _ _ trivial (fun hHeld => ?_)
    clear hK K
    simp only [Act.put, List.setIfInBounds_toArray, List.set]
    refine wpAnyH_take (i := 7) (oi := _) (v := ?_) (by (simp only [List.getElem?_toArray]; rfl)) (by kernel_rfl) (by kernel_rfl) (by kernel_rfl) (by exact fun _ _ _ h => h) (Or.inl ⟨by rfl, ?_⟩) (by assumption) ?_
    rotate_left
    · intro wS hSw
      go_simp
      all_goals first | with_reducible rfl | rw [if_neg (by omega)]
    simp only [Act.put, List.setIfInBounds_toArray, List.set]
    refine wpAnyH_done (by kernel_rfl) ?_ _
    have er : zs.take i ++ zs.drop (i + 1) = zs.eraseIdx i := (List.eraseIdx_eq_take_drop_succ zs i).symm
    have R1 := q1.row
    rw [er] at R1
    have hle : (zs.eraseIdx i).length = n - 1 := by rw [List.length_eraseIdx]; simp [hn, hi]
    have R1' := Lib.hid R1
    have G1 := Lib.hid q1.grown
    have HLE := Lib.hid hle
    clear q1 R1 er hle
    have g1 : ((n - 1 : Nat) : Int) ≤ (n : Int) := by omega
    have g2 : (0 : Int) ≤ ((n - 1 : Nat) : Int) := by omega
    have g3 : (n : Int) ≤ (c' : Int) := by omega
    have g4 : n - 1 ≤ n := by omega
    have g5 : n - (n - 1) = 1 := by omega
    have g6 : ¬ (c' = n - 1) := by omega
    go_wp2_with (with_reducible refine wpList_clear_row (o := ⟨none, .call { callee := .builtin .clear, args := #[.tmp 31], argTypes := #[_] }, _, _, _, _⟩) rfl (.tmp 31) rfl eltReq rfl R1'.out (Nat.le_of_eq HLE.out) (by omega) zoneReq ?_)
    intro w2 r2 t2
    go_wp2_with fail
    go_ret
    exact ⟨rfl, r2, grownBy_trans ⟨G1.out.os, G1.out.tape, G1.out.output, G1.out.size, G1.out.block⟩ (by simpa [rowBlk, h6] using t2)⟩
  case pos =>
    subst h7
    have h11 : (i : Int) ≤ (i : Int) + 1 := by omega
    refine wp_region_held_drew (S := fun _ => True) (by kernel_rfl) trivial (fun hHeld => ?_)
    refine wpAnyH_take (i := 0) (oi := _) (v := ?_) (by (simp only [List.getElem?_toArray]; rfl)) (by kernel_rfl) (by kernel_rfl) (by kernel_rfl) (by exact fun _ _ _ h => h) (Or.inl ⟨by rfl, ?_⟩) (by assumption) ?_
    rotate_left
    · intro wS hSw
      go_simp
      all_goals first | with_reducible rfl | rw [if_neg (by omega)]
    simp only [Act.put, List.setIfInBounds_toArray, List.set]
    refine wpAnyH_take (i := 1) (oi := _) (v := ?_) (by (simp only [List.getElem?_toArray]; rfl)) (by kernel_rfl) (by kernel_rfl) (by kernel_rfl) (by exact fun _ _ _ h => h) (Or.inl ⟨by rfl, ?_⟩) (by assumption) ?_
    rotate_left
    · intro wS hSw
      go_simp
      all_goals first | with_reducible rfl | rw [if_neg (by omega)]
    simp only [Act.put, List.setIfInBounds_toArray, List.set]
    refine wpAnyH_take (i := 2) (oi := _) (v := ?_) (by (simp only [List.getElem?_toArray]; rfl)) (by kernel_rfl) (by kernel_rfl) (by kernel_rfl) (by exact fun _ _ _ h => h) (Or.inl ⟨by rfl, ?_⟩) (by assumption) ?_
    rotate_left
    · intro wS hSw
      go_simp
      all_goals first | with_reducible rfl | rw [if_neg (by omega)]
    simp only [Act.put, List.setIfInBounds_toArray, List.set]
    refine wpAnyH_take (i := 3) (oi := _) (v := ?_) (by (simp only [List.getElem?_toArray]; rfl)) (by kernel_rfl) (by kernel_rfl) (by kernel_rfl) (by exact fun _ _ _ h => h) (Or.inl ⟨by rfl, ?_⟩) (by assumption) ?_
    rotate_left
    · intro wS hSw
      go_simp
      all_goals first | with_reducible rfl | rw [if_neg (by omega)]
    simp only [Act.put, List.setIfInBounds_toArray, List.set]
    refine wpAnyH_take (i := 4) (oi := _) (v := ?_) (by (simp only [List.getElem?_toArray]; rfl)) (by kernel_rfl) (by kernel_rfl) (by kernel_rfl) (by exact fun _ _ _ h => h) (Or.inl ⟨by rfl, ?_⟩) (by assumption) ?_
    rotate_left
    · intro wS hSw
      go_simp
      all_goals first | with_reducible rfl | rw [if_neg (by omega)]
    simp only [Act.put, List.setIfInBounds_toArray, List.set]
    refine wpAnyH_take (i := 5) (oi := _) (v := ?_) (by (simp only [List.getElem?_toArray]; rfl)) (by kernel_rfl) (by kernel_rfl) (by kernel_rfl) (by exact fun _ _ _ h => h) (Or.inl ⟨by rfl, ?_⟩) (by assumption) ?_
    rotate_left
    · intro wS hSw
      go_simp
      all_goals first | with_reducible rfl | rw [if_neg (by omega)]
    simp only [Act.put, List.setIfInBounds_toArray, List.set]
    refine wpAnyH_ready (rs := [6]) (by kernel_rfl) (by simp) ?_
    refine AllReadyH.cons (o := _) (by (simp only [List.getElem?_toArray]; rfl)) (fun K hK => ?_) AllReadyH.nil
    refine step_append_elt (by rfl) (.tmp 22) (.tmp 25) (by rfl) (n - 1) eltReq (by rfl) (by rfl) (H.out.take five_len i).drew (ys := zs.drop (i + 1)) (by rw [List.drop_eq_nil_of_le (by omega)]; exact RowsAt.empty _ _ _ _) (by rw [List.length_take]; omega) (by rw [List.length_drop] <;> omega) (by omega) (by simp only [maxLen]; omega) (by omega) (Row.blk H.out (g := g) (by simp [rowBlk]) |> fun q => Nat.le_trans q.1 (Nat.le_of_lt q.2)) ?_
    intro a' c' w1 q1
    have hst := q1.stay (by rw [List.length_append, List.length_take, List.length_drop]; omega)
    obtain ⟨rfl, rfl⟩ := hst
    refine hK.out _ _ trivial (fun hHeld => ?_)
    clear hK K
    simp only [Act.put, List.setIfInBounds_toArray, List.set]
    refine wpAnyH_take (i := 7) (oi := _) (v := ?_) (by (simp only [List.getElem?_toArray]; rfl)) (by kernel_rfl) (by kernel_rfl) (by kernel_rfl) (by exact fun _ _ _ h => h) (Or.inl ⟨by rfl, ?_⟩) (by assumption) ?_
    rotate_left
    · intro wS hSw
      go_simp
      all_goals first | with_reducible rfl | rw [if_neg (by omega)]
    simp only [Act.put, List.setIfInBounds_toArray, List.set]
    refine wpAnyH_done (by kernel_rfl) ?_ _
    have er : zs.take i ++ zs.drop (i + 1) = zs.eraseIdx i := (List.eraseIdx_eq_take_drop_succ zs i).symm
    have R1 := q1.row
    rw [er] at R1
    have hle : (zs.eraseIdx i).length = n - 1 := by rw [List.length_eraseIdx]; simp [hn, hi]
    have R1' := Lib.hid R1
    have G1 := Lib.hid q1.grown
    have HLE := Lib.hid hle
    clear q1 R1 er hle
    have g1 : ((n - 1 : Nat) : Int) ≤ (n : Int) := by omega
    have g2 : (0 : Int) ≤ ((n - 1 : Nat) : Int) := by omega
    have g3 : (n : Int) ≤ ((i + 1 : Nat) : Int) := by omega
    have g4 : n - 1 ≤ n := by omega
    have g5 : n - (n - 1) = 1 := by omega
    have g6 : ¬ (i + 1 = n - 1) := by omega
    go_wp2_with (with_reducible refine wpList_clear_row (o := ⟨none, .call { callee := .builtin .clear, args := #[.tmp 31], argTypes := #[_] }, _, _, _, _⟩) rfl (.tmp 31) rfl eltReq rfl R1'.out (Nat.le_of_eq HLE.out) (by omega) zoneReq ?_)
    intro w2 r2 t2
    go_wp2_with fail
    go_ret
    exact ⟨rfl, r2, grownBy_trans ⟨G1.out.os, G1.out.tape, G1.out.output, G1.out.size, G1.out.block⟩ (by simpa [rowBlk, h6] using t2)⟩
set_option maxRecDepth 100000 in
theorem zoneEnt : ∀ z v, Try.prog.info? 92 = some z → z.zero = some v → ∀ u ∈ v.cells.toList, u.oneCell' = true := by
  intro z v h1 h2
  have h : (Try.prog.info? 92).map (·.zero) = some (some (.agg #[.int .i64 0, .int .i64 0, .int .i64 0, .int .i64 0, .int .i64 0])) := by kernel_rfl
  rw [h1] at h
  simp only [Option.map_some, Option.some.injEq] at h
  rw [h2] at h
  injection h with h
  subst h
  intro u hu
  simp [Value.cells] at hu
  subst hu
  rfl
set_option maxRecDepth 100000 in
set_option maxHeartbeats 4000000 in
theorem slDeleteEnt_c {B n cap i : Nat} {a : Option Addr} {zs : List Rq} (w : World) (h : Row w B 92 a cap 5 Rq.cs zs) (hn : zs.length = n) (hi : i < n) (hs : n ≤ 16777216) :
    Calls Try.prog 118 #[.slice a n cap, .int .i64 i, .int .i64 ((i : Int) + 1)] w fun e w' => e = .returned (.slice a (n - 1 : Nat) cap) ∧ Row w' B 92 a cap 5 Rq.cs (zs.eraseIdx i) ∧ w.grownBy w' (rowBlk a cap) := by
  have hlen := h.len
  have hmax := h.max
  have H := Lib.hid h
  obtain ⟨g, cur, rfl, -⟩ := h.own (by omega)
  clear h
  unfold maxLen at hmax
  have h1 : (0 : Int) ≤ (i : Int) := by omega
  have h2 : ((i : Int) + 1) ≤ (n : Int) := by omega
  have h3 : ¬ ((i : Int) = (i : Int) + 1) := by omega
  have h4 : (i : Int) ≤ (cap : Int) := by omega
  have h5 : (i : Int) + 1 ≤ (cap : Int) := by omega
  have h6 : ¬ cap = 0 := by omega
  have h8 : (i : Int) < (n : Int) := by omega
  have h9 : i + 1 ≤ n := by omega
  have h10 : (0 : Int) ≤ (i : Int) + 1 := by omega
  go_enter Try.func118, Try.ntmps118
  go_wp2_with fail
  by_cases h7 : cap = i + 1
  case neg =>
    refine wp_region_held_drew (S := fun _ => True) (by kernel_rfl) trivial (fun hHeld => ?_)
    refine wpAnyH_take (i := 0) (oi := _) (v := ?_) (by (simp only [List.getElem?_toArray]; rfl)) (by kernel_rfl) (by kernel_rfl) (by kernel_rfl) (by exact fun _ _ _ h => h) (Or.inl ⟨by rfl, ?_⟩) (by assumption) ?_
    rotate_left
    · intro wS hSw
      go_simp
      all_goals first | with_reducible rfl | rw [if_neg (by omega)]
    simp only [Act.put, List.setIfInBounds_toArray, List.set]
    refine wpAnyH_take (i := 1) (oi := _) (v := ?_) (by (simp only [List.getElem?_toArray]; rfl)) (by kernel_rfl) (by kernel_rfl) (by kernel_rfl) (by exact fun _ _ _ h => h) (Or.inl ⟨by rfl, ?_⟩) (by assumption) ?_
    rotate_left
    · intro wS hSw
      go_simp
      all_goals first | with_reducible rfl | rw [if_neg (by omega)]
    simp only [Act.put, List.setIfInBounds_toArray, List.set]
    refine wpAnyH_take (i := 2) (oi := _) (v := ?_) (by (simp only [List.getElem?_toArray]; rfl)) (by kernel_rfl) (by kernel_rfl) (by kernel_rfl) (by exact fun _ _ _ h => h) (Or.inl ⟨by rfl, ?_⟩) (by assumption) ?_
    rotate_left
    · intro wS hSw
      go_simp
      all_goals first | with_reducible rfl | rw [if_neg (by omega)]
    simp only [Act.put, List.setIfInBounds_toArray, List.set]
    refine wpAnyH_take (i := 3) (oi := _) (v := ?_) (by (simp only [List.getElem?_toArray]; rfl)) (by kernel_rfl) (by kernel_rfl) (by kernel_rfl) (by exact fun _ _ _ h => h) (Or.inl ⟨by rfl, ?_⟩) (by assumption) ?_
    rotate_left
    · intro wS hSw
      go_simp
      all_goals first | with_reducible rfl | rw [if_neg (by omega)]
    simp only [Act.put, List.setIfInBounds_toArray, List.set]
    refine wpAnyH_take (i := 4) (oi := _) (v := ?_) (by (simp only [List.getElem?_toArray]; rfl)) (by kernel_rfl) (by kernel_rfl) (by kernel_rfl) (by exact fun _ _ _ h => h) (Or.inl ⟨by rfl, ?_⟩) (by assumption) ?_
    rotate_left
    · intro wS hSw
      go_simp
      all_goals first | with_reducible rfl | rw [if_neg (by omega)]
    simp only [Act.put, List.setIfInBounds_toArray, List.set]
    refine wpAnyH_take (i := 5) (oi := _) (v := ?_) (by (simp only [List.getElem?_toArray]; rfl)) (by kernel_rfl) (by kernel_rfl) (by kernel_rfl) (by exact fun _ _ _ h => h) (Or.inl ⟨by rfl, ?_⟩) (by assumption) ?_
    rotate_left
    · intro wS hSw
      go_simp
      all_goals first | with_reducible rfl | rw [if_neg (by omega)]
    simp only [Act.put, List.setIfInBounds_toArray, List.set]
    refine wpAnyH_ready (rs := [6]) (by kernel_rfl) (by simp) ?_
    refine AllReadyH.cons (o := _) (by (simp only [List.getElem?_toArray]; rfl)) (fun K hK => ?_) AllReadyH.nil
    refine step_append_elt (by rfl) (.tmp 22) (.tmp 25) (by rfl) (n - 1) eltEnt (by rfl) (by rfl) (H.out.take five_len i).drew (ys := zs.drop (i + 1)) ((H.out.rows five_len).drop (i + 1) |> fun q => by simpa using q.below (Below.drew (Below.refl _ _))) (by rw [List.length_take]; omega) (by rw [List.length_drop]; omega) (by omega) (by simp only [maxLen]; omega) (by omega) (Row.blk H.out (g := g) (by simp [rowBlk]; omega) |> fun q => Nat.le_trans q.1 (Nat.le_of_lt q.2)) ?_
    intro a' c' w1 q1
    have hst := q1.stay (by rw [List.length_append, List.length_take, List.length_drop]; omega)
    obtain ⟨rfl, rfl⟩ := hst
    refine hK.out _ _ trivial (fun hHeld => ?_)
    clear hK K
    simp only [Act.put, List.setIfInBounds_toArray, List.set]
    refine wpAnyH_take (i := 7) (oi := _) (v := ?_) (by (simp only [List.getElem?_toArray]; rfl)) (by kernel_rfl) (by kernel_rfl) (by kernel_rfl) (by exact fun _ _ _ h => h) (Or.inl ⟨by rfl, ?_⟩) (by assumption) ?_
    rotate_left
    · intro wS hSw
      go_simp
      all_goals first | with_reducible rfl | rw [if_neg (by omega)]
    simp only [Act.put, List.setIfInBounds_toArray, List.set]
    refine wpAnyH_done (by kernel_rfl) ?_ _
    have er : zs.take i ++ zs.drop (i + 1) = zs.eraseIdx i := (List.eraseIdx_eq_take_drop_succ zs i).symm
    have R1 := q1.row
    rw [er] at R1
    have hle : (zs.eraseIdx i).length = n - 1 := by rw [List.length_eraseIdx]; simp [hn, hi]
    have R1' := Lib.hid R1
    have G1 := Lib.hid q1.grown
    have HLE := Lib.hid hle
    clear q1 R1 er hle
    have g1 : ((n - 1 : Nat) : Int) ≤ (n : Int) := by omega
    have g2 : (0 : Int) ≤ ((n - 1 : Nat) : Int) := by omega
    have g3 : (n : Int) ≤ (c' : Int) := by omega
    have g4 : n - 1 ≤ n := by omega
    have g5 : n - (n - 1) = 1 := by omega
    have g6 : ¬ (c' = n - 1) := by omega
    go_wp2_with (with_reducible refine wpList_clear_row (o := ⟨none, .call { callee := .builtin .clear, args := #[.tmp 31], argTypes := #[_] }, _, _, _, _⟩) rfl (.tmp 31) rfl eltEnt rfl R1'.out (Nat.le_of_eq HLE.out) (by omega) zoneEnt ?_)
    intro w2 r2 t2
    go_wp2_with fail
    go_ret
    exact ⟨rfl, r2, grownBy_trans ⟨G1.out.os, G1.out.tape, G1.out.output, G1.out.size, G1.out.block⟩ (by simpa [rowBlk, h6] using t2)⟩
  case pos =>
    subst h7
    have h11 : (i : Int) ≤ (i : Int) + 1 := by omega
    refine wp_region_held_drew (S := fun _ => True) (by kernel_rfl) trivial (fun hHeld => ?_)
    refine wpAnyH_take (i := 0) (oi := _) (v := ?_) (by (simp only [List.getElem?_toArray]; rfl)) (by kernel_rfl) (by kernel_rfl) (by kernel_rfl) (by exact fun _ _ _ h => h) (Or.inl ⟨by rfl, ?_⟩) (by assumption) ?_
    rotate_left
    · intro wS hSw
      go_simp
      all_goals first | with_reducible rfl | rw [if_neg (by omega)]
    simp only [Act.put, List.setIfInBounds_toArray, List.set]
    refine wpAnyH_take (i := 1) (oi := _) (v := ?_) (by (simp only [List.getElem?_toArray]; rfl)) (by kernel_rfl) (by kernel_rfl) (by kernel_rfl) (by exact fun _ _ _ h => h) (Or.inl ⟨by rfl, ?_⟩) (by assumption) ?_
    rotate_left
    · intro wS hSw
      go_simp
      all_goals first | with_reducible rfl | rw [if_neg (by omega)]
    simp only [Act.put, List.setIfInBounds_toArray, List.set]
    refine wpAnyH_take (i := 2) (oi := _) (v := ?_) (by (simp only [List.getElem?_toArray]; rfl)) (by kernel_rfl) (by kernel_rfl) (by kernel_rfl) (by exact fun _ _ _ h => h) (Or.inl ⟨by rfl, ?_⟩) (by assumption) ?_
    rotate_left
    · intro wS hSw
      go_simp
      all_goals first | with_reducible rfl | rw [if_neg (by omega)]
    simp only [Act.put, List.setIfInBounds_toArray, List.set]
    refine wpAnyH_take (i := 3) (oi := _) (v := ?_) (by (simp only [List.getElem?_toArray]; rfl)) (by kernel_rfl) (by kernel_rfl) (by kernel_rfl) (by exact fun _ _ _ h => h) (Or.inl ⟨by rfl, ?_⟩) (by assumption) ?_
    rotate_left
    · intro wS hSw
      go_simp
      all_goals first | with_reducible rfl | rw [if_neg (by omega)]
    simp only [Act.put, List.setIfInBounds_toArray, List.set]
    refine wpAnyH_take (i := 4) (oi := _) (v := ?_) (by (simp only [List.getElem?_toArray]; rfl)) (by kernel_rfl) (by kernel_rfl) (by kernel_rfl) (by exact fun _ _ _ h => h) (Or.inl ⟨by rfl, ?_⟩) (by assumption) ?_
    rotate_left
    · intro wS hSw
      go_simp
      all_goals first | with_reducible rfl | rw [if_neg (by omega)]
    simp only [Act.put, List.setIfInBounds_toArray, List.set]
    refine wpAnyH_take (i := 5) (oi := _) (v := ?_) (by (simp only [List.getElem?_toArray]; rfl)) (by kernel_rfl) (by kernel_rfl) (by kernel_rfl) (by exact fun _ _ _ h => h) (Or.inl ⟨by rfl, ?_⟩) (by assumption) ?_
    rotate_left
    · intro wS hSw
      go_simp
      all_goals first | with_reducible rfl | rw [if_neg (by omega)]
    simp only [Act.put, List.setIfInBounds_toArray, List.set]
    refine wpAnyH_ready (rs := [6]) (by kernel_rfl) (by simp) ?_
    refine AllReadyH.cons (o := _) (by (simp only [List.getElem?_toArray]; rfl)) (fun K hK => ?_) AllReadyH.nil
    refine step_append_elt (by rfl) (.tmp 22) (.tmp 25) (by rfl) (n - 1) eltEnt (by rfl) (by rfl) (H.out.take five_len i).drew (ys := zs.drop (i + 1)) (by rw [List.drop_eq_nil_of_le (by omega)]; exact RowsAt.empty _ _ _ _) (by rw [List.length_take]; omega) (by rw [List.length_drop] <;> omega) (by omega) (by simp only [maxLen]; omega) (by omega) (Row.blk H.out (g := g) (by simp [rowBlk]) |> fun q => Nat.le_trans q.1 (Nat.le_of_lt q.2)) ?_
    intro a' c' w1 q1
    have hst := q1.stay (by rw [List.length_append, List.length_take, List.length_drop]; omega)
    obtain ⟨rfl, rfl⟩ := hst
    refine hK.out _ _ trivial (fun hHeld => ?_)
    clear hK K
    simp only [Act.put, List.setIfInBounds_toArray, List.set]
    refine wpAnyH_take (i := 7) (oi := _) (v := ?_) (by (simp only [List.getElem?_toArray]; rfl)) (by kernel_rfl) (by kernel_rfl) (by kernel_rfl) (by exact fun _ _ _ h => h) (Or.inl ⟨by rfl, ?_⟩) (by assumption) ?_
    rotate_left
    · intro wS hSw
      go_simp
      all_goals first | with_reducible rfl | rw [if_neg (by omega)]
    simp only [Act.put, List.setIfInBounds_toArray, List.set]
    refine wpAnyH_done (by kernel_rfl) ?_ _
    have er : zs.take i ++ zs.drop (i + 1) = zs.eraseIdx i := (List.eraseIdx_eq_take_drop_succ zs i).symm
    have R1 := q1.row
    rw [er] at R1
    have hle : (zs.eraseIdx i).length = n - 1 := by rw [List.length_eraseIdx]; simp [hn, hi]
    have R1' := Lib.hid R1
    have G1 := Lib.hid q1.grown
    have HLE := Lib.hid hle
    clear q1 R1 er hle
    have g1 : ((n - 1 : Nat) : Int) ≤ (n : Int) := by omega
    have g2 : (0 : Int) ≤ ((n - 1 : Nat) : Int) := by omega
    have g3 : (n : Int) ≤ ((i + 1 : Nat) : Int) := by omega
    have g4 : n - 1 ≤ n := by omega
    have g5 : n - (n - 1) = 1 := by omega
    have g6 : ¬ (i + 1 = n - 1) := by omega
    go_wp2_with (with_reducible refine wpList_clear_row (o := ⟨none, .call { callee := .builtin .clear, args := #[.tmp 31], argTypes := #[_] }, _, _, _, _⟩) rfl (.tmp 31) rfl eltEnt rfl R1'.out (Nat.le_of_eq HLE.out) (by omega) zoneEnt ?_)
    intro w2 r2 t2
    go_wp2_with fail
    go_ret
    exact ⟨rfl, r2, grownBy_trans ⟨G1.out.os, G1.out.tape, G1.out.output, G1.out.size, G1.out.block⟩ (by simpa [rowBlk, h6] using t2)⟩
end Go.Proofs.Ytofedboeggdkaaa

/-! A cell of an own row stored: the row with one element turned; no condition. -/
namespace Go.Proofs.Ytofedboeggdkaaa
open Go.RowKit Go.Joins

theorem Row.setOne {α : Type} {w : World} {B : Nat} {e : TypeId} {a : Option Addr} {cap k : Nat} {R : α → List Value} {zs : List α} (h : Row w B e a cap k R zs) (hR : ∀ z, (R z).length = k) {i j g : Nat} (hi : i < zs.length) (hj : j < k) (z' : α) (v : Value)
    (hv : (R z')[j]? = some v) (ho : ∀ j', j' < k → j' ≠ j → (R z')[j']? = (R zs[i])[j']?) (ha : a = some ⟨g, 0, none⟩) : Row (w.setCell ⟨g, i * k + j, none⟩ v) B e a cap k R (zs.set i z') := by
  refine ⟨by simpa using h.len, h.max, fun hc => ?_⟩
  obtain ⟨g', cur, q1, q2, q3, q4, q5⟩ := h.own hc
  obtain rfl : g = g' := by rw [ha] at q1; injection q1 with q1; injection q1
  refine ⟨g, cur.setIfInBounds (i * k + j) v, ha, q2, block_setCell q3 v, by simpa using q4, fun m hm => ?_⟩
  rw [List.length_set] at hm
  have hk : 0 < k := by omega
  have hq : m / k < zs.length := Nat.div_lt_of_lt_mul (by rw [Nat.mul_comm]; exact hm)
  have hr : m % k < k := Nat.mod_lt _ hk
  have he : m / k * k + m % k = m := by rw [Nat.mul_comm]; exact Nat.div_add_mod m k
  have f1 := flat_get hR (zs.set i z') (m / k) (by simpa using hq) (m % k) hr
  have f2 := flat_get hR zs (m / k) hq (m % k) hr
  rw [he] at f1 f2
  rw [f1, Array.getElem?_setIfInBounds]
  by_cases hm2 : i * k + j = m
  · have h1 : m / k = i := by rw [← hm2, Nat.mul_comm, Nat.mul_add_div hk, Nat.div_eq_of_lt hj, Nat.add_zero]
    have h2 : m % k = j := by rw [← hm2, Nat.mul_comm, Nat.mul_add_mod, Nat.mod_eq_of_lt hj]
    have hlt : m < cur.size := by
      have : zs.length * k ≤ cap * k := Nat.mul_le_mul_right k h.len
      omega
    rw [if_pos hm2, if_pos (by rw [hm2]; exact hlt)]
    subst h1 h2
    rw [List.getElem_set_self]
    exact hv.symm
  · rw [if_neg hm2, q5 m hm, f2]
    by_cases h1 : m / k = i
    · have h2 : m % k ≠ j := fun q => hm2 (by rw [← h1, ← q]; exact he)
      subst h1
      rw [List.getElem_set_self]
      exact (ho _ hr h2).symm
    · rw [List.getElem_set_ne (fun q => h1 q.symm)]
end Go.Proofs.Ytofedboeggdkaaa

/-! Contract of GameOk (the program's); condition: at most 2^20 elements. -/
namespace Go.Proofs.Ytofedboeggdkaaa
open Go.RowKit Go.Joins

set_option maxHeartbeats 400000 in
theorem onBoard_c (x y : Int) (w : World) :
    Calls Try.prog 90 #[.int .i64 x, .int .i64 y] w fun e w' => e = .returned (.bool (inB x 0 3 && inB y 0 3)) ∧ w = w' := by
  cases h : inB x 0 3 with
  | true =>
    go_enter Try.func90, Try.ntmps90
    go_wp2_with (go_at_call 81; refine (in_c _ _ _ _).mono ?_; rintro e w' ⟨rfl, rfl⟩)
    go_ret
    exact ⟨ret_bool (by simp), rfl⟩
  | false =>
    go_enter Try.func90, Try.ntmps90
    go_wp2_with (go_at_call 81; refine (in_c _ _ _ _).mono ?_; rintro e w' ⟨rfl, rfl⟩)
    go_ret
    exact ⟨ret_bool (by simp), rfl⟩

set_option maxHeartbeats 400000 in
theorem notNum_c (n : Int) (w : World) :
    Calls Try.prog 92 #[.int .i64 n] w fun e w' => e = .returned (.bool (!inB n 0 30)) ∧ w = w' := by
  go_enter Try.func92, Try.ntmps92
  go_wp2_with (go_at_call 81; refine (in_c _ _ _ _).mono ?_; rintro e w' ⟨rfl, rfl⟩)
  go_ret
  exact ⟨rfl, rfl⟩

def IsFirstI (zs : List Int) (w : World) (e : Ending) (w' : World) : Prop :=
  ∃ m : Int, e = .returned (.int .i64 m) ∧ ((zs.all (fun n => inB n 0 30) = true ∧ m < 0) ∨ (zs.all (fun n => inB n 0 30) = false ∧ 0 ≤ m)) ∧ Below w.heap.size w w'

set_option maxRecDepth 100000 in
set_option maxHeartbeats 1000000 in
theorem firstBadI_c (a : Option Addr) (zs : List Int) (n cap : Nat) (w : World) (h : IsSl w (.slice a n cap) 1 intR zs) :
    Calls Try.prog 119 #[.slice a n cap, .func (.func 92) #[] #[]] w (IsFirstI zs w) := by
  obtain ⟨hnn, hlc, hm, hr⟩ := h.bounds
  have HR := Lib.hid hr
  clear hr h
  unfold maxLen at hm
  go_enter Try.func119, Try.ntmps119
  go_wp2_with fail
  go_loopw [8] (fun i wr => ∃ k : Nat, k ≤ n ∧ i = .int .i64 k ∧ (∀ j (hj : j < zs.length), j < k → inB zs[j] 0 30 = true) ∧ Below w.heap.size w wr) (fun i _ => n - (intOf i).toNat)
  case atStart => exact ⟨0, Nat.zero_le _, rfl, fun j _ hj => absurd hj (Nat.not_lt_zero j), Below.refl _ _⟩
  case round =>
    obtain ⟨k, hk, rfl, hall, hbel⟩ := hrel
    have HA := Lib.hid hall
    clear hall
    by_cases hlt : k < n
    · have hkz : k < zs.length := by omega
      have hk1 : (k : Int) < (n : Int) := by omega
      have hk0 : (0 : Int) ≤ (k : Int) := by omega
      obtain ⟨b, off, rfl, hb, hcz⟩ := one_at HR.out k hkz
      have d0 := hcz wr hbel
      clear hcz
      cases hg : inB zs[k] 0 30 with
      | true =>
        go_wp2_with fail
        refine (notNum_c zs[k] _).mono ?_
        rintro e w1 ⟨rfl, rfl⟩
        rw [hg]
        go_wp2_with fail
        refine ⟨⟨k + 1, by omega, by go_num, fun j hj hjk => ?_, hbel⟩, ?_⟩
        · by_cases hjk' : j = k
          · subst hjk'; exact hg
          · exact HA.out j hj (by omega)
        · simp [intOf]; omega
      | false =>
        go_wp2_with fail
        refine (notNum_c zs[k] _).mono ?_
        rintro e w1 ⟨rfl, rfl⟩
        rw [hg]
        go_wp2_with fail
        go_ret
        exact ⟨k, rfl, .inr ⟨all_bad hkz hg, by omega⟩, hbel⟩
    · go_wp2_with fail
      go_ret
      exact ⟨-1, rfl, .inl ⟨all_good HA.out (by omega), by omega⟩, hbel⟩

set_option maxHeartbeats 400000 in
theorem anyBadI_c (a : Option Addr) (zs : List Int) (n cap : Nat) (w : World) (h : IsSl w (.slice a n cap) 1 intR zs) :
    Calls Try.prog 91 #[.slice a n cap, .func (.func 92) #[] #[]] w fun e w' => e = .returned (.bool (!zs.all (fun n => inB n 0 30))) ∧ Below w.heap.size w w' := by
  have HI := Lib.hid (firstBadI_c a zs n cap w h)
  clear h
  go_enter Try.func91, Try.ntmps91
  go_wp2_with fail
  refine HI.out.mono ?_
  rintro e w1 ⟨m, rfl, hm, k1⟩
  rcases hm with ⟨ha, hm⟩ | ⟨ha, hm⟩
  · go_wp2_with fail
    go_ret
    exact ⟨ret_bool (by rw [ha]; simp; omega), k1⟩
  · go_wp2_with fail
    go_ret
    exact ⟨ret_bool (by rw [ha]; simp; try omega), k1⟩

set_option maxRecDepth 100000 in
set_option maxHeartbeats 4000000 in
theorem GameOk_c (z : Gm) (a0 a1 a2 : Option Addr) (c0 c1 c2 : Nat) (w : World) (h0 : IsSl w (.slice a0 z.es.length c0) 5 Rq.cs z.es) (h1 : IsSl w (.slice a1 z.fl.length c1) 1 intR z.fl) (h2 : IsSl w (.slice a2 z.la.length c2) 1 intR z.la)
    (hs : z.es.length + z.fl.length + z.la.length ≤ 1048576) :
    Calls Try.prog 39 #[.agg #[.slice a0 z.es.length c0, .slice a1 z.fl.length c1, .slice a2 z.la.length c2]] w fun e w' => e = .returned (.bool (gameB z)) ∧ Below w.heap.size w w' := by
  obtain ⟨es, fl, la⟩ := z
  simp only [gameB] at h0 h1 h2 hs ⊢
  obtain ⟨-, hlc0, hm0, hr0⟩ := h0.bounds
  obtain ⟨-, hlc1, hm1, hr1⟩ := h1.bounds
  obtain ⟨-, hlc2, hm2, hr2⟩ := h2.bounds
  have R0 := Lib.hid hr0
  have R1 := Lib.hid hr1
  have H2 := Lib.hid h2
  clear hr0 hr1 hr2 h0 h1 h2
  unfold maxLen at hm0 hm1 hm2
  generalize hn0 : es.length = n0 at *
  generalize hn1 : fl.length = n1 at *
  generalize hn2 : la.length = n2 at *
  go_enter Try.func39, Try.ntmps39
  go_wp2_with fail
  obtain ⟨W, hW, sW, aW, kW⟩ := blocks1 w (.cells #[.slice a0 n0 c0, .slice a1 n1 c1, .slice a2 n2 c2] 46)
  rw [← hW]
  clear hW
  have hcW := cell_of_block aW
  go_wp2_with fail
  go_loopw [3, 4, 12] (fun l s i wr => ∃ k : Nat, k ≤ n0 ∧ i = .int .i64 k ∧ l = .int .i64 (prevC es k) ∧ s = .int .i64 (golds (es.take k)) ∧ (∀ j, j < k → entAt es j = true) ∧ wr.heap[w.heap.size]? = some (.cells #[.slice a0 n0 c0, .slice a1 n1 c1, .slice a2 n2 c2] 46 (0, 0)) ∧ Below w.heap.size w wr) (fun _ _ i _ => n0 - (intOf i).toNat)
  case atStart => exact ⟨0, Nat.zero_le _, rfl, rfl, by simp [golds], fun j hj => absurd hj (Nat.not_lt_zero j), aW, kW⟩
  case round =>
    obtain ⟨k, hk, rfl, rfl, rfl, hall, hB, hbel⟩ := hrel
    obtain ⟨hp0, hp1⟩ := prev_bound hall
    obtain ⟨hg0, hg1⟩ := golds_bound (by omega) hall
    have HA := Lib.hid hall
    have HB := Lib.hid hB
    have hlB := lt_of_block hB
    have hcB := cell_of_block hB
    clear hall hB aW kW hcW
    by_cases hlt : k < n0
    · have hkz : k < es.length := by omega
      have hk1 : (k : Int) < (n0 : Int) := by omega
      have hk0 : (0 : Int) ≤ (k : Int) := by omega
      obtain ⟨b, off, rfl, hb, hcz⟩ := five_at R0.out k hkz
      obtain ⟨d0, d1, d2, d3, d4⟩ := hcz wr hbel
      have hb' := Nat.lt_of_lt_of_le hb hbel.size
      have hne : b ≠ wr.heap.size := by omega
      have hne' : w.heap.size ≠ wr.heap.size := by omega
      have hpn : prevC es (k + 1) = es[k].c := by unfold prevC; rw [if_neg (by omega), Nat.add_sub_cancel, entN_get hkz]
      have hgn := golds_snoc hkz
      have hat : entAt es k = figB (prevC es k) es[k] := by unfold entAt; rw [entN_get hkz]
      rw [entN_get hkz] at hgn
      have HP := Lib.hid hpn
      have HG := Lib.hid hgn
      have HT := Lib.hid hat
      clear hcz hpn hgn hat
      generalize prevC es k = L at *
      generalize golds (es.take k) = G at *
      generalize es[k] = z at *
      have hL : IntKind.i64.wrap (L + 1) = L + 1 := IntWalk.i64_in _ ⟨by omega, by omega⟩
      go_wp2_with fail
      obtain ⟨X, hX, sX, aX, kX⟩ := blocks1 wr (.cells #[.int .i64 z.c, .int .i64 z.n, .int .i64 z.o, .int .i64 z.x, .int .i64 z.y] 92)
      rw [← hX]
      clear hX
      have oX := carryB kX hlB HB.out
      have KX := below_next hbel kX
      have hcX := cell_of_block aX
      clear kX d0 d1 d2 d3 d4 hcB
      cases e1 : inB z.c (L + 1) 4 with
      | false =>
        go_wp2_with (first | (go_at_call 81; refine (in_c _ _ _ _).mono ?_; rintro e w' ⟨rfl, rfl⟩) | (go_at_call 90; refine (onBoard_c _ _ _).mono ?_; rintro e w' ⟨rfl, rfl⟩))
        go_ret
        refine ⟨ret_bool ?_, KX⟩
        rw [entsB_bad hkz (by rw [HT.out]; simp only [figB, e1, Bool.false_and])]
        rfl
      | true =>
        cases e2 : inB z.n 0 3 with
        | false =>
          go_wp2_with (first | (go_at_call 81; refine (in_c _ _ _ _).mono ?_; rintro e w' ⟨rfl, rfl⟩) | (go_at_call 90; refine (onBoard_c _ _ _).mono ?_; rintro e w' ⟨rfl, rfl⟩))
          go_ret
          refine ⟨ret_bool ?_, KX⟩
          rw [entsB_bad hkz (by rw [HT.out]; simp only [figB, e1, e2, Bool.false_and, Bool.and_false])]
          rfl
        | true =>
          cases e3 : inB z.o 0 3 with
          | false =>
            go_wp2_with (first | (go_at_call 81; refine (in_c _ _ _ _).mono ?_; rintro e w' ⟨rfl, rfl⟩) | (go_at_call 90; refine (onBoard_c _ _ _).mono ?_; rintro e w' ⟨rfl, rfl⟩))
            go_ret
            refine ⟨ret_bool ?_, KX⟩
            rw [entsB_bad hkz (by rw [HT.out]; simp only [figB, e1, e2, e3, Bool.false_and, Bool.and_false])]
            rfl
          | true =>
            cases e4 : inB z.x 0 3 with
            | false =>
              go_wp2_with (first | (go_at_call 81; refine (in_c _ _ _ _).mono ?_; rintro e w' ⟨rfl, rfl⟩) | (go_at_call 90; refine (onBoard_c _ _ _).mono ?_; rintro e w' ⟨rfl, rfl⟩))
              go_ret
              refine ⟨ret_bool ?_, KX⟩
              rw [entsB_bad hkz (by rw [HT.out]; simp only [figB, e1, e2, e3, e4, Bool.false_and, Bool.and_false])]
              rfl
            | true =>
              cases e5 : inB z.y 0 20 with
              | false =>
                go_wp2_with (first | (go_at_call 81; refine (in_c _ _ _ _).mono ?_; rintro e w' ⟨rfl, rfl⟩) | (go_at_call 90; refine (onBoard_c _ _ _).mono ?_; rintro e w' ⟨rfl, rfl⟩))
                go_ret
                refine ⟨ret_bool ?_, KX⟩
                rw [entsB_bad hkz (by rw [HT.out]; simp only [figB, e1, e2, e3, e4, e5, Bool.and_false])]
                rfl
              | true =>
                have hy := (inB_iff _ _ _).1 e5
                have hGy : IntKind.i64.wrap (G + z.y) = G + z.y := IntWalk.i64_in _ ⟨by omega, by omega⟩
                go_wp2_with (first | (go_at_call 81; refine (in_c _ _ _ _).mono ?_; rintro e w' ⟨rfl, rfl⟩) | (go_at_call 90; refine (onBoard_c _ _ _).mono ?_; rintro e w' ⟨rfl, rfl⟩))
                refine ⟨⟨k + 1, by omega, by go_num, by rw [HP.out], by rw [HG.out], fun j hj => ?_, oX, KX⟩, ?_⟩
                · by_cases hjk : j = k
                  · subst hjk
                    rw [HT.out]
                    simp only [figB, e1, e2, e3, e4, e5]
                    rfl
                  · exact HA.out j (by omega)
                · simp [intOf]; omega
    · have hkk : n0 = k := by omega
      subst hkk
      have hents : entsB es = true := by
        rw [entsB_iff]
        exact fun j hj => HA.out j (by omega)
      rw [show es.take n0 = es by exact List.take_of_length_le (by omega)] at hg0 hg1 ⊢
      have HE := Lib.hid hents
      clear hents
      generalize hG : golds es = G at *
      go_wp2_with fail
      go_loopw [4, 8, 52] (fun s _ i wr => ∃ k : Nat, k ≤ n1 ∧ i = .int .i64 k ∧ s = .int .i64 (G + (fl.take k).sum) ∧ (∀ j (hj : j < fl.length), j < k → inB fl[j] 0 20 = true) ∧ wr.heap[w.heap.size]? = some (.cells #[.slice a0 n0 c0, .slice a1 n1 c1, .slice a2 n2 c2] 46 (0, 0)) ∧ Below w.heap.size w wr) (fun _ _ i _ => n1 - (intOf i).toNat)
      case atStart => exact ⟨0, Nat.zero_le _, rfl, by simp, fun j _ hj => absurd hj (Nat.not_lt_zero j), HB.out, hbel⟩
      case round =>
        clear hcB hbel HB HA hlB hlt
        obtain ⟨k, hk, rfl, rfl, hall, hB, hbel⟩ := hrel
        obtain ⟨hs0, hs1⟩ := sum_bound (by omega) hall
        have HA := Lib.hid hall
        have HB := Lib.hid hB
        have hlB := lt_of_block hB
        have hcB := cell_of_block hB
        clear hall hB
        by_cases hlt : k < n1
        · have hkz : k < fl.length := by omega
          have hk1 : (k : Int) < (n1 : Int) := by omega
          have hk0 : (0 : Int) ≤ (k : Int) := by omega
          obtain ⟨b, off, rfl, hb, hcz⟩ := one_at R1.out k hkz
          have d0 := hcz wr hbel
          have HG := Lib.hid (sum_snoc hkz)
          clear hcz
          cases e1 : inB fl[k] 0 20 with
          | false =>
            go_wp2_with (first | (go_at_call 81; refine (in_c _ _ _ _).mono ?_; rintro e w' ⟨rfl, rfl⟩) | (go_at_call 90; refine (onBoard_c _ _ _).mono ?_; rintro e w' ⟨rfl, rfl⟩))
            go_ret
            refine ⟨ret_bool ?_, hbel⟩
            rw [all_bad (p := fun n => inB n 0 20) hkz e1, HE.out]
            rfl
          | true =>
            have hy := (inB_iff _ _ _).1 e1
            have hGy : IntKind.i64.wrap (G + (fl.take k).sum + fl[k]) = G + (fl.take k).sum + fl[k] := IntWalk.i64_in _ ⟨by omega, by omega⟩
            go_wp2_with (first | (go_at_call 81; refine (in_c _ _ _ _).mono ?_; rintro e w' ⟨rfl, rfl⟩) | (go_at_call 90; refine (onBoard_c _ _ _).mono ?_; rintro e w' ⟨rfl, rfl⟩))
            go_roundw
            case rel =>
              refine ⟨k + 1, by omega, ?_, ?_, fun j hj hjk => ?_, HB.out, hbel⟩
              · go_num
              · rw [HG.out, Int.add_assoc]
              · by_cases hjk' : j = k
                · subst hjk'; exact e1
                · exact HA.out j hj (by omega)
            case measure => simp [intOf]; omega
        · have hkk : k = n1 := by omega
          have hfl : fl.all (fun n => inB n 0 20) = true := all_good HA.out (by omega)
          rw [show fl.take k = fl by rw [hkk]; exact List.take_of_length_le (by omega)] at hs0 hs1 ⊢
          clear hlt HA
          have HF := Lib.hid hfl
          clear hfl
          generalize hF : fl.sum = F at *
          by_cases q1 : n1 = 16
          · have q1' : ((n1 : Int) == 16) = true := by simp; omega
            have Q1 := Lib.hid q1
            clear q1
            by_cases q2 : n2 = 4
            · have q2' : ((n2 : Int) == 4) = true := by simp; omega
              have Q2 := Lib.hid q2
              clear q2
              by_cases q3 : G + F = 20
              · have q3' : (G + F == 20) = true := by simp; omega
                have Q3 := Lib.hid q3
                clear q3
                go_wp2_with fail
                refine (anyBadI_c a2 la n2 c2 _ (H2.out.below hbel)).mono ?_
                rintro e w1 ⟨rfl, k1⟩
                go_wp2_with fail
                go_ret
                exact ⟨ret_bool (by rw [HE.out, HF.out, hG, hF]; simp [Q1.out, Q2.out, Q3.out]), below_next hbel k1⟩
              · have q3' : (G + F == 20) = false := by simp; omega
                have Q3 := Lib.hid q3
                clear q3
                go_wp2_with fail
                go_ret
                exact ⟨ret_bool (by rw [HE.out, HF.out, hG, hF]; simp [Q3.out]), hbel⟩
            · have q2' : ((n2 : Int) == 4) = false := by simp; omega
              have Q2 := Lib.hid q2
              clear q2
              go_wp2_with fail
              go_ret
              exact ⟨ret_bool (by rw [HE.out, HF.out, hG, hF]; simp [Q2.out]), hbel⟩
          · have q1' : ((n1 : Int) == 16) = false := by simp; omega
            have Q1 := Lib.hid q1
            clear q1
            go_wp2_with fail
            go_ret
            exact ⟨ret_bool (by rw [HE.out, HF.out, hG, hF]; simp [Q1.out]), hbel⟩
end Go.Proofs.Ytofedboeggdkaaa

/-! Contract of the reference's GameOk; condition: at most 2^20 elements. -/
namespace Go.Proofs.Ytofedboeggdkaaa
open Go.RowKit Go.Joins

def figS (c n o x y : Int) : Bool := inB c 1 4 && inB n 0 3 && inB o 0 3 && inB x 0 3 && inB y 0 20

set_option maxHeartbeats 1000000 in
theorem l2EntOk_c (c n o x y : Int) (w : World) :
    Calls Try.prog 121 #[.agg #[.int .i64 c, .int .i64 n, .int .i64 o, .int .i64 x, .int .i64 y]] w fun e w' => e = .returned (.bool (figS c n o x y)) ∧ Below w.heap.size w w' := by
  go_enter Try.func121, Try.ntmps121
  go_wp2_with (go_at_call 104; refine (l1In_c _ _ _ _).mono ?_; rintro e w' ⟨rfl, rfl⟩)
  all_goals go_ret
  all_goals refine ⟨ret_bool ?_, (by repeat' (first | with_reducible exact Below.refl _ _ | with_reducible assumption | with_reducible refine Below.alloc ?_ ?_ _ | with_reducible refine Below.drew ?_ | with_reducible refine Below.setCell ?_ ?_ _ | omega | (simp; omega) | (simp; done)))⟩
  all_goals simp_all [figS]

theorem l2EntOk_v (c n o x y : Int) (w : World) (b : Bool) (h : figS c n o x y = b) :
    Calls Try.prog 121 #[.agg #[.int .i64 c, .int .i64 n, .int .i64 o, .int .i64 x, .int .i64 y]] w fun e w' => e = .returned (.bool b) ∧ Below w.heap.size w w' := by
  rw [← h]; exact l2EntOk_c c n o x y w

theorem entAt_first {es : List Rq} {z : Rq} (hz : entN es 0 = z) : entAt es 0 = figS z.c z.n z.o z.x z.y := by
  unfold entAt prevC
  rw [if_pos rfl, hz]
  simp only [figB, figS, Int.zero_add, Bool.and_assoc]
theorem entAt_next {es : List Rq} {m : Nat} {z p : Rq} (h : ∀ j, j < m + 1 → entAt es j = true) (hz : entN es (m + 1) = z) (hp : entN es m = p) : entAt es (m + 1) = (figS z.c z.n z.o z.x z.y && !decide (z.c ≤ p.c)) := by
  have h1 := (figB_iff _ _).1 (h m (by omega))
  have h2 := (prev_bound (k := m) (fun j hj => h j (by omega))).1
  rw [hp] at h1
  unfold entAt
  rw [show prevC es (m + 1) = p.c by unfold prevC; rw [if_neg (by omega), Nat.add_sub_cancel, hp], hz]
  rw [Bool.eq_iff_iff, figB_iff]
  simp only [figS, Bool.and_eq_true, inB_iff, Bool.not_eq_true', decide_eq_false_iff_not]
  constructor
  · rintro ⟨⟨a1, a2⟩, ⟨b1, b2⟩, ⟨c1, c2⟩, ⟨d1, d2⟩, ⟨e1, e2⟩⟩
    omega
  · rintro ⟨⟨⟨⟨⟨⟨a1, a2⟩, b1, b2⟩, c1, c2⟩, d1, d2⟩, e1, e2⟩, f⟩
    omega

set_option maxRecDepth 100000 in
set_option maxHeartbeats 4000000 in
theorem l2Ok_c (z : Gm) (a0 a1 a2 : Option Addr) (c0 c1 c2 : Nat) (w : World) (h0 : IsSl w (.slice a0 z.es.length c0) 5 Rq.cs z.es) (h1 : IsSl w (.slice a1 z.fl.length c1) 1 intR z.fl) (h2 : IsSl w (.slice a2 z.la.length c2) 1 intR z.la)
    (hs : z.es.length + z.fl.length + z.la.length ≤ 1048576) :
    Calls Try.prog 95 #[.agg #[.slice a0 z.es.length c0, .slice a1 z.fl.length c1, .slice a2 z.la.length c2]] w fun e w' => e = .returned (.bool (gameB z)) ∧ Below w.heap.size w w' := by
  obtain ⟨es, fl, la⟩ := z
  simp only [gameB] at h0 h1 h2 hs ⊢
  obtain ⟨-, hlc0, hm0, hr0⟩ := h0.bounds
  obtain ⟨-, hlc1, hm1, hr1⟩ := h1.bounds
  obtain ⟨-, hlc2, hm2, hr2⟩ := h2.bounds
  have R0 := Lib.hid hr0
  have R1 := Lib.hid hr1
  have R2 := Lib.hid hr2
  clear hr0 hr1 hr2 h0 h1 h2
  unfold maxLen at hm0 hm1 hm2
  generalize hn0 : es.length = n0 at *
  generalize hn1 : fl.length = n1 at *
  generalize hn2 : la.length = n2 at *
  go_enter Try.func95, Try.ntmps95
  go_wp2_with fail
  obtain ⟨W, hW, sW, aW, kW⟩ := blocks1 w (.cells #[.slice a0 n0 c0, .slice a1 n1 c1, .slice a2 n2 c2] 46)
  rw [← hW]
  clear hW
  have hcW := cell_of_block aW
  go_loopw [3, 4] (fun s i wr => ∃ k : Nat, k ≤ n0 ∧ i = .int .i64 k ∧ s = .int .i64 (golds (es.take k)) ∧ (∀ j, j < k → entAt es j = true) ∧ wr.heap[w.heap.size]? = some (.cells #[.slice a0 n0 c0, .slice a1 n1 c1, .slice a2 n2 c2] 46 (0, 0)) ∧ Below w.heap.size w wr) (fun _ i _ => n0 - (intOf i).toNat)
  case atStart => exact ⟨0, Nat.zero_le _, rfl, by simp [golds], fun j hj => absurd hj (Nat.not_lt_zero j), aW, kW⟩
  case round =>
    obtain ⟨k, hk, rfl, rfl, hall, hB, hbel⟩ := hrel
    obtain ⟨hg0, hg1⟩ := golds_bound (by omega) hall
    have HA := Lib.hid hall
    have HB := Lib.hid hB
    have hlB := lt_of_block hB
    have hcB := cell_of_block hB
    clear hall hB aW kW hcW
    by_cases hlt : k < n0
    · have hkz : k < es.length := by omega
      have hk1 : (k : Int) < (n0 : Int) := by omega
      have hk0 : (0 : Int) ≤ (k : Int) := by omega
      obtain ⟨b, off, rfl, hb, hcz⟩ := five_at R0.out k hkz
      obtain ⟨d0, d1, d2, d3, d4⟩ := hcz wr hbel
      have hb' := Nat.lt_of_lt_of_le hb hbel.size
      have hgn := golds_snoc hkz
      have hez := entN_get hkz
      rw [hez] at hgn
      have HG := Lib.hid hgn
      clear hcz hgn
      generalize golds (es.take k) = G at *
      generalize es[k] = z at *
      by_cases hk00 : k = 0
      · subst hk00
        have HT := Lib.hid (entAt_first hez)
        have HZ := Lib.hid hez
        clear hez
        rw [Nat.zero_mul, Nat.add_zero] at d0 d1 d2 d3 d4
        cases e1 : figS z.c z.n z.o z.x z.y with
        | false =>
          go_wp2_with fail
          refine wp_region_held_drew (S := fun w' => (∀ b o, b < wr.heap.size → w'.cell? ⟨b, o, none⟩ = wr.cell? ⟨b, o, none⟩) ∧ Below wr.heap.size wr w') (by kernel_rfl) (Kept.start wr) (fun hHeld => ?_)
          refine wpAnyH_take (i := 0) (oi := _) (v := ?_) (by (simp only [List.getElem?_toArray]; rfl)) (by kernel_rfl) (by kernel_rfl) (by kernel_rfl) (by exact fun _ _ _ h => h) (Or.inl ⟨by rfl, ?_⟩) (by assumption) ?_
          rotate_left
          · intro wS hSw
            go_simp
            all_goals first | with_reducible rfl | rw [if_neg (by omega)]
          simp only [Act.put, List.setIfInBounds_toArray, List.set]
          refine wpAnyH_take (i := 1) (oi := _) (v := ?_) (by (simp only [List.getElem?_toArray]; rfl)) (by kernel_rfl) (by kernel_rfl) (by kernel_rfl) (by exact fun _ _ _ h => h) (Or.inl ⟨by rfl, ?_⟩) (by assumption) ?_
          rotate_left
          · intro wS hSw
            go_simp
            all_goals first | with_reducible rfl | rw [if_neg (by omega)]
          simp only [Act.put, List.setIfInBounds_toArray, List.set]
          refine wpAnyH_take (i := 2) (oi := _) (v := ?_) (by (simp only [List.getElem?_toArray]; rfl)) (by kernel_rfl) (by kernel_rfl) (by kernel_rfl) (by exact fun _ _ _ h => h) (Or.inl ⟨by rfl, ?_⟩) (by assumption) ?_
          rotate_left
          · intro wS hSw
            go_simp
            all_goals first | with_reducible rfl | rw [if_neg (by omega)]
          simp only [Act.put, List.setIfInBounds_toArray, List.set]
          refine wpAnyH_take (i := 3) (oi := _) (v := ?_) (by (simp only [List.getElem?_toArray]; rfl)) (by kernel_rfl) (by kernel_rfl) (by kernel_rfl) (by exact fun _ _ _ h => h) (Or.inl ⟨by rfl, ?_⟩) (by assumption) ?_
          rotate_left
          · intro wS hSw
            go_simp
            all_goals first | with_reducible rfl | rw [if_neg (by omega)]
          simp only [Act.put, List.setIfInBounds_toArray, List.set]
          refine wpAnyH_take (i := 4) (oi := _) (v := ?_) (by (simp only [List.getElem?_toArray]; rfl)) (by kernel_rfl) (by kernel_rfl) (by kernel_rfl) (by exact fun _ _ _ h => h) (Or.inl ⟨by rfl, ?_⟩) (by assumption) ?_
          rotate_left
          · intro wS hSw
            go_simp
            all_goals first | with_reducible rfl | rw [if_neg (by omega)]
          simp only [Act.put, List.setIfInBounds_toArray, List.set]
          refine wpAnyH_ready (rs := [5]) (by kernel_rfl) (by simp) ?_
          refine AllReadyH.cons (o := _) (by (simp only [List.getElem?_toArray]; rfl)) (fun K hK => ?_) AllReadyH.nil
          go_simp
          refine (l2EntOk_v z.c z.n z.o z.x z.y _ _ e1).mono ?_
          rintro e w1 ⟨rfl, k1⟩
          have kS := Kept.next (Nat.le_refl _) (Kept.start wr) k1
          have K1 := below_next hbel kS.2
          refine hK.out _ _ kS (fun hHeld => ?_)
          clear hK K
          try simp only [Act.put, List.setIfInBounds_toArray, List.set]
          refine wpAnyH_take (i := 6) (oi := _) (v := ?_) (by (simp only [List.getElem?_toArray]; rfl)) (by kernel_rfl) (by kernel_rfl) (by kernel_rfl) (by exact fun _ _ _ h => h) (Or.inl ⟨by rfl, ?_⟩) (by assumption) ?_
          rotate_left
          · intro wS hSw
            go_simp
            all_goals first | with_reducible rfl | rw [if_neg (by omega)]
          simp only [Act.put, List.setIfInBounds_toArray, List.set]
          refine wpAnyH_take (i := 7) (oi := _) (v := ?_) (by (simp only [List.getElem?_toArray]; rfl)) (by kernel_rfl) (by kernel_rfl) (by kernel_rfl) (by exact fun _ _ _ h => h) (Or.inl ⟨by rfl, ?_⟩) (by assumption) ?_
          rotate_left
          · intro wS hSw
            go_simp
            all_goals first | with_reducible rfl | rw [if_neg (by omega)]
          simp only [Act.put, List.setIfInBounds_toArray, List.set]
          refine wpAnyH_take (i := 8) (oi := _) (v := undef) (by (simp only [List.getElem?_toArray]; rfl)) (by kernel_rfl) (by kernel_rfl) (by kernel_rfl) (by exact fun _ _ _ h => h) (Or.inr ⟨by rfl, rfl⟩) (by assumption) ?_
          simp only [Act.put, List.setIfInBounds_toArray, List.set]
          refine wpAnyH_take (i := 9) (oi := _) (v := undef) (by (simp only [List.getElem?_toArray]; rfl)) (by kernel_rfl) (by kernel_rfl) (by kernel_rfl) (by exact fun _ _ _ h => h) (Or.inr ⟨by rfl, rfl⟩) (by assumption) ?_
          simp only [Act.put, List.setIfInBounds_toArray, List.set]
          refine wpAnyH_take (i := 10) (oi := _) (v := undef) (by (simp only [List.getElem?_toArray]; rfl)) (by kernel_rfl) (by kernel_rfl) (by kernel_rfl) (by exact fun _ _ _ h => h) (Or.inr ⟨by rfl, rfl⟩) (by assumption) ?_
          simp only [Act.put, List.setIfInBounds_toArray, List.set]
          refine wpAnyH_take (i := 11) (oi := _) (v := undef) (by (simp only [List.getElem?_toArray]; rfl)) (by kernel_rfl) (by kernel_rfl) (by kernel_rfl) (by exact fun _ _ _ h => h) (Or.inr ⟨by rfl, rfl⟩) (by assumption) ?_
          simp only [Act.put, List.setIfInBounds_toArray, List.set]
          refine wpAnyH_take (i := 12) (oi := _) (v := undef) (by (simp only [List.getElem?_toArray]; rfl)) (by kernel_rfl) (by kernel_rfl) (by kernel_rfl) (by exact fun _ _ _ h => h) (Or.inr ⟨by rfl, rfl⟩) (by assumption) ?_
          simp only [Act.put, List.setIfInBounds_toArray, List.set]
          refine wpAnyH_take (i := 13) (oi := _) (v := undef) (by (simp only [List.getElem?_toArray]; rfl)) (by kernel_rfl) (by kernel_rfl) (by kernel_rfl) (by exact fun _ _ _ h => h) (Or.inr ⟨by rfl, rfl⟩) (by assumption) ?_
          simp only [Act.put, List.setIfInBounds_toArray, List.set]
          refine wpAnyH_take (i := 14) (oi := _) (v := undef) (by (simp only [List.getElem?_toArray]; rfl)) (by kernel_rfl) (by kernel_rfl) (by kernel_rfl) (by exact fun _ _ _ h => h) (Or.inr ⟨by rfl, rfl⟩) (by assumption) ?_
          simp only [Act.put, List.setIfInBounds_toArray, List.set]
          refine wpAnyH_take (i := 15) (oi := _) (v := undef) (by (simp only [List.getElem?_toArray]; rfl)) (by kernel_rfl) (by kernel_rfl) (by kernel_rfl) (by exact fun _ _ _ h => h) (Or.inr ⟨by rfl, rfl⟩) (by assumption) ?_
          simp only [Act.put, List.setIfInBounds_toArray, List.set]
          refine wpAnyH_take (i := 16) (oi := _) (v := undef) (by (simp only [List.getElem?_toArray]; rfl)) (by kernel_rfl) (by kernel_rfl) (by kernel_rfl) (by exact fun _ _ _ h => h) (Or.inr ⟨by rfl, rfl⟩) (by assumption) ?_
          simp only [Act.put, List.setIfInBounds_toArray, List.set]
          refine wpAnyH_take (i := 17) (oi := _) (v := undef) (by (simp only [List.getElem?_toArray]; rfl)) (by kernel_rfl) (by kernel_rfl) (by kernel_rfl) (by exact fun _ _ _ h => h) (Or.inr ⟨by rfl, rfl⟩) (by assumption) ?_
          simp only [Act.put, List.setIfInBounds_toArray, List.set]
          refine wpAnyH_take (i := 18) (oi := _) (v := undef) (by (simp only [List.getElem?_toArray]; rfl)) (by kernel_rfl) (by kernel_rfl) (by kernel_rfl) (by exact fun _ _ _ h => h) (Or.inr ⟨by rfl, rfl⟩) (by assumption) ?_
          simp only [Act.put, List.setIfInBounds_toArray, List.set]
          refine wpAnyH_take (i := 19) (oi := _) (v := undef) (by (simp only [List.getElem?_toArray]; rfl)) (by kernel_rfl) (by kernel_rfl) (by kernel_rfl) (by exact fun _ _ _ h => h) (Or.inr ⟨by rfl, rfl⟩) (by assumption) ?_
          simp only [Act.put, List.setIfInBounds_toArray, List.set]
          refine wpAnyH_take (i := 20) (oi := _) (v := undef) (by (simp only [List.getElem?_toArray]; rfl)) (by kernel_rfl) (by kernel_rfl) (by kernel_rfl) (by exact fun _ _ _ h => h) (Or.inr ⟨by rfl, rfl⟩) (by assumption) ?_
          simp only [Act.put, List.setIfInBounds_toArray, List.set]
          refine wpAnyH_take (i := 21) (oi := _) (v := undef) (by (simp only [List.getElem?_toArray]; rfl)) (by kernel_rfl) (by kernel_rfl) (by kernel_rfl) (by exact fun _ _ _ h => h) (Or.inr ⟨by rfl, rfl⟩) (by assumption) ?_
          simp only [Act.put, List.setIfInBounds_toArray, List.set]
          refine wpAnyH_take (i := 22) (oi := _) (v := undef) (by (simp only [List.getElem?_toArray]; rfl)) (by kernel_rfl) (by kernel_rfl) (by kernel_rfl) (by exact fun _ _ _ h => h) (Or.inr ⟨by rfl, rfl⟩) (by assumption) ?_
          simp only [Act.put, List.setIfInBounds_toArray, List.set]
          refine wpAnyH_take (i := 23) (oi := _) (v := undef) (by (simp only [List.getElem?_toArray]; rfl)) (by kernel_rfl) (by kernel_rfl) (by kernel_rfl) (by exact fun _ _ _ h => h) (Or.inr ⟨by rfl, rfl⟩) (by assumption) ?_
          simp only [Act.put, List.setIfInBounds_toArray, List.set]
          refine wpAnyH_take (i := 24) (oi := _) (v := undef) (by (simp only [List.getElem?_toArray]; rfl)) (by kernel_rfl) (by kernel_rfl) (by kernel_rfl) (by exact fun _ _ _ h => h) (Or.inr ⟨by rfl, rfl⟩) (by assumption) ?_
          simp only [Act.put, List.setIfInBounds_toArray, List.set]
          refine wpAnyH_take (i := 25) (oi := _) (v := undef) (by (simp only [List.getElem?_toArray]; rfl)) (by kernel_rfl) (by kernel_rfl) (by kernel_rfl) (by exact fun _ _ _ h => h) (Or.inr ⟨by rfl, rfl⟩) (by assumption) ?_
          simp only [Act.put, List.setIfInBounds_toArray, List.set]
          refine wpAnyH_take (i := 26) (oi := _) (v := ?_) (by (simp only [List.getElem?_toArray]; rfl)) (by kernel_rfl) (by kernel_rfl) (by kernel_rfl) (by exact fun _ _ _ h => h) (Or.inl ⟨by rfl, ?_⟩) (by assumption) ?_
          rotate_left
          · intro wS hSw
            go_simp
            all_goals first | with_reducible rfl | rw [if_neg (by omega)]
          simp only [Act.put, List.setIfInBounds_toArray, List.set]
          refine wpAnyH_done (by kernel_rfl) ?_ _
          clear hHeld kS k1
          go_wp2_with fail
          go_ret
          refine ⟨ret_bool ?_, K1⟩
          rw [entsB_bad hkz (by rw [HT.out]; exact e1)]
          rfl
        | true =>
          go_wp2_with fail
          refine wp_region_held_drew (S := fun w' => (∀ b o, b < wr.heap.size → w'.cell? ⟨b, o, none⟩ = wr.cell? ⟨b, o, none⟩) ∧ Below wr.heap.size wr w') (by kernel_rfl) (Kept.start wr) (fun hHeld => ?_)
          refine wpAnyH_take (i := 0) (oi := _) (v := ?_) (by (simp only [List.getElem?_toArray]; rfl)) (by kernel_rfl) (by kernel_rfl) (by kernel_rfl) (by exact fun _ _ _ h => h) (Or.inl ⟨by rfl, ?_⟩) (by assumption) ?_
          rotate_left
          · intro wS hSw
            go_simp
            all_goals first | with_reducible rfl | rw [if_neg (by omega)]
          simp only [Act.put, List.setIfInBounds_toArray, List.set]
          refine wpAnyH_take (i := 1) (oi := _) (v := ?_) (by (simp only [List.getElem?_toArray]; rfl)) (by kernel_rfl) (by kernel_rfl) (by kernel_rfl) (by exact fun _ _ _ h => h) (Or.inl ⟨by rfl, ?_⟩) (by assumption) ?_
          rotate_left
          · intro wS hSw
            go_simp
            all_goals first | with_reducible rfl | rw [if_neg (by omega)]
          simp only [Act.put, List.setIfInBounds_toArray, List.set]
          refine wpAnyH_take (i := 2) (oi := _) (v := ?_) (by (simp only [List.getElem?_toArray]; rfl)) (by kernel_rfl) (by kernel_rfl) (by kernel_rfl) (by exact fun _ _ _ h => h) (Or.inl ⟨by rfl, ?_⟩) (by assumption) ?_
          rotate_left
          · intro wS hSw
            go_simp
            all_goals first | with_reducible rfl | rw [if_neg (by omega)]
          simp only [Act.put, List.setIfInBounds_toArray, List.set]
          refine wpAnyH_take (i := 3) (oi := _) (v := ?_) (by (simp only [List.getElem?_toArray]; rfl)) (by kernel_rfl) (by kernel_rfl) (by kernel_rfl) (by exact fun _ _ _ h => h) (Or.inl ⟨by rfl, ?_⟩) (by assumption) ?_
          rotate_left
          · intro wS hSw
            go_simp
            all_goals first | with_reducible rfl | rw [if_neg (by omega)]
          simp only [Act.put, List.setIfInBounds_toArray, List.set]
          refine wpAnyH_take (i := 4) (oi := _) (v := ?_) (by (simp only [List.getElem?_toArray]; rfl)) (by kernel_rfl) (by kernel_rfl) (by kernel_rfl) (by exact fun _ _ _ h => h) (Or.inl ⟨by rfl, ?_⟩) (by assumption) ?_
          rotate_left
          · intro wS hSw
            go_simp
            all_goals first | with_reducible rfl | rw [if_neg (by omega)]
          simp only [Act.put, List.setIfInBounds_toArray, List.set]
          refine wpAnyH_ready (rs := [5]) (by kernel_rfl) (by simp) ?_
          refine AllReadyH.cons (o := _) (by (simp only [List.getElem?_toArray]; rfl)) (fun K hK => ?_) AllReadyH.nil
          go_simp
          refine (l2EntOk_v z.c z.n z.o z.x z.y _ _ e1).mono ?_
          rintro e w1 ⟨rfl, k1⟩
          have kS := Kept.next (Nat.le_refl _) (Kept.start wr) k1
          have K1 := below_next hbel kS.2
          refine hK.out _ _ kS (fun hHeld => ?_)
          clear hK K
          try simp only [Act.put, List.setIfInBounds_toArray, List.set]
          refine wpAnyH_take (i := 6) (oi := _) (v := ?_) (by (simp only [List.getElem?_toArray]; rfl)) (by kernel_rfl) (by kernel_rfl) (by kernel_rfl) (by exact fun _ _ _ h => h) (Or.inl ⟨by rfl, ?_⟩) (by assumption) ?_
          rotate_left
          · intro wS hSw
            go_simp
            all_goals first | with_reducible rfl | rw [if_neg (by omega)]
          simp only [Act.put, List.setIfInBounds_toArray, List.set]
          refine wpAnyH_take (i := 7) (oi := _) (v := ?_) (by (simp only [List.getElem?_toArray]; rfl)) (by kernel_rfl) (by kernel_rfl) (by kernel_rfl) (by exact fun _ _ _ h => h) (Or.inl ⟨by rfl, ?_⟩) (by assumption) ?_
          rotate_left
          · intro wS hSw
            go_simp
            all_goals first | with_reducible rfl | rw [if_neg (by omega)]
          simp only [Act.put, List.setIfInBounds_toArray, List.set]
          refine wpAnyH_take (i := 8) (oi := _) (v := ?_) (by (simp only [List.getElem?_toArray]; rfl)) (by kernel_rfl) (by kernel_rfl) (by kernel_rfl) (by exact fun _ _ _ h => h) (Or.inl ⟨by rfl, ?_⟩) (by assumption) ?_
          rotate_left
          · intro wS hSw
            go_simp
            all_goals first | with_reducible rfl | rw [if_neg (by omega)]
          simp only [Act.put, List.setIfInBounds_toArray, List.set]
          refine wpAnyH_take (i := 9) (oi := _) (v := ?_) (by (simp only [List.getElem?_toArray]; rfl)) (by kernel_rfl) (by kernel_rfl) (by kernel_rfl) (by exact fun _ _ _ h => h) (Or.inl ⟨by rfl, ?_⟩) (by assumption) ?_
          rotate_left
          · intro wS hSw
            go_simp
            all_goals first | with_reducible rfl | rw [if_neg (by omega)]
          simp only [Act.put, List.setIfInBounds_toArray, List.set]
          refine wpAnyH_take (i := 10) (oi := _) (v := ?_) (by (simp only [List.getElem?_toArray]; rfl)) (by kernel_rfl) (by kernel_rfl) (by kernel_rfl) (by exact fun _ _ _ h => h) (Or.inl ⟨by rfl, ?_⟩) (by assumption) ?_
          rotate_left
          · intro wS hSw
            go_simp
            all_goals first | with_reducible rfl | rw [if_neg (by omega)]
          simp only [Act.put, List.setIfInBounds_toArray, List.set]
          refine wpAnyH_take (i := 11) (oi := _) (v := undef) (by (simp only [List.getElem?_toArray]; rfl)) (by kernel_rfl) (by kernel_rfl) (by kernel_rfl) (by exact fun _ _ _ h => h) (Or.inr ⟨by rfl, rfl⟩) (by assumption) ?_
          simp only [Act.put, List.setIfInBounds_toArray, List.set]
          refine wpAnyH_take (i := 12) (oi := _) (v := undef) (by (simp only [List.getElem?_toArray]; rfl)) (by kernel_rfl) (by kernel_rfl) (by kernel_rfl) (by exact fun _ _ _ h => h) (Or.inr ⟨by rfl, rfl⟩) (by assumption) ?_
          simp only [Act.put, List.setIfInBounds_toArray, List.set]
          refine wpAnyH_take (i := 13) (oi := _) (v := undef) (by (simp only [List.getElem?_toArray]; rfl)) (by kernel_rfl) (by kernel_rfl) (by kernel_rfl) (by exact fun _ _ _ h => h) (Or.inr ⟨by rfl, rfl⟩) (by assumption) ?_
          simp only [Act.put, List.setIfInBounds_toArray, List.set]
          refine wpAnyH_take (i := 14) (oi := _) (v := undef) (by (simp only [List.getElem?_toArray]; rfl)) (by kernel_rfl) (by kernel_rfl) (by kernel_rfl) (by exact fun _ _ _ h => h) (Or.inr ⟨by rfl, rfl⟩) (by assumption) ?_
          simp only [Act.put, List.setIfInBounds_toArray, List.set]
          refine wpAnyH_take (i := 15) (oi := _) (v := undef) (by (simp only [List.getElem?_toArray]; rfl)) (by kernel_rfl) (by kernel_rfl) (by kernel_rfl) (by exact fun _ _ _ h => h) (Or.inr ⟨by rfl, rfl⟩) (by assumption) ?_
          simp only [Act.put, List.setIfInBounds_toArray, List.set]
          refine wpAnyH_take (i := 16) (oi := _) (v := undef) (by (simp only [List.getElem?_toArray]; rfl)) (by kernel_rfl) (by kernel_rfl) (by kernel_rfl) (by exact fun _ _ _ h => h) (Or.inr ⟨by rfl, rfl⟩) (by assumption) ?_
          simp only [Act.put, List.setIfInBounds_toArray, List.set]
          refine wpAnyH_take (i := 17) (oi := _) (v := undef) (by (simp only [List.getElem?_toArray]; rfl)) (by kernel_rfl) (by kernel_rfl) (by kernel_rfl) (by exact fun _ _ _ h => h) (Or.inr ⟨by rfl, rfl⟩) (by assumption) ?_
          simp only [Act.put, List.setIfInBounds_toArray, List.set]
          refine wpAnyH_take (i := 18) (oi := _) (v := undef) (by (simp only [List.getElem?_toArray]; rfl)) (by kernel_rfl) (by kernel_rfl) (by kernel_rfl) (by exact fun _ _ _ h => h) (Or.inr ⟨by rfl, rfl⟩) (by assumption) ?_
          simp only [Act.put, List.setIfInBounds_toArray, List.set]
          refine wpAnyH_take (i := 19) (oi := _) (v := undef) (by (simp only [List.getElem?_toArray]; rfl)) (by kernel_rfl) (by kernel_rfl) (by kernel_rfl) (by exact fun _ _ _ h => h) (Or.inr ⟨by rfl, rfl⟩) (by assumption) ?_
          simp only [Act.put, List.setIfInBounds_toArray, List.set]
          refine wpAnyH_take (i := 20) (oi := _) (v := undef) (by (simp only [List.getElem?_toArray]; rfl)) (by kernel_rfl) (by kernel_rfl) (by kernel_rfl) (by exact fun _ _ _ h => h) (Or.inr ⟨by rfl, rfl⟩) (by assumption) ?_
          simp only [Act.put, List.setIfInBounds_toArray, List.set]
          refine wpAnyH_take (i := 21) (oi := _) (v := undef) (by (simp only [List.getElem?_toArray]; rfl)) (by kernel_rfl) (by kernel_rfl) (by kernel_rfl) (by exact fun _ _ _ h => h) (Or.inr ⟨by rfl, rfl⟩) (by assumption) ?_
          simp only [Act.put, List.setIfInBounds_toArray, List.set]
          refine wpAnyH_take (i := 22) (oi := _) (v := undef) (by (simp only [List.getElem?_toArray]; rfl)) (by kernel_rfl) (by kernel_rfl) (by kernel_rfl) (by exact fun _ _ _ h => h) (Or.inr ⟨by rfl, rfl⟩) (by assumption) ?_
          simp only [Act.put, List.setIfInBounds_toArray, List.set]
          refine wpAnyH_take (i := 23) (oi := _) (v := undef) (by (simp only [List.getElem?_toArray]; rfl)) (by kernel_rfl) (by kernel_rfl) (by kernel_rfl) (by exact fun _ _ _ h => h) (Or.inr ⟨by rfl, rfl⟩) (by assumption) ?_
          simp only [Act.put, List.setIfInBounds_toArray, List.set]
          refine wpAnyH_take (i := 24) (oi := _) (v := undef) (by (simp only [List.getElem?_toArray]; rfl)) (by kernel_rfl) (by kernel_rfl) (by kernel_rfl) (by exact fun _ _ _ h => h) (Or.inr ⟨by rfl, rfl⟩) (by assumption) ?_
          simp only [Act.put, List.setIfInBounds_toArray, List.set]
          refine wpAnyH_take (i := 25) (oi := _) (v := ?_) (by (simp only [List.getElem?_toArray]; rfl)) (by kernel_rfl) (by kernel_rfl) (by kernel_rfl) (by exact fun _ _ _ h => h) (Or.inl ⟨by rfl, ?_⟩) (by assumption) ?_
          rotate_left
          · intro wS hSw
            go_simp
            all_goals first | with_reducible rfl | rw [if_neg (by omega)]
          simp only [Act.put, List.setIfInBounds_toArray, List.set]
          refine wpAnyH_take (i := 26) (oi := _) (v := ?_) (by (simp only [List.getElem?_toArray]; rfl)) (by kernel_rfl) (by kernel_rfl) (by kernel_rfl) (by exact fun _ _ _ h => h) (Or.inl ⟨by rfl, ?_⟩) (by assumption) ?_
          rotate_left
          · intro wS hSw
            go_simp
            all_goals first | with_reducible rfl | rw [if_neg (by omega)]
          simp only [Act.put, List.setIfInBounds_toArray, List.set]
          refine wpAnyH_done (by kernel_rfl) ?_ _
          have he : entAt es (0) = true := by rw [HT.out]; exact e1
          have hy := (figB_iff _ _).1 he
          rw [show entN es (0) = z from HZ.out] at hy
          have hGy : IntKind.i64.wrap (G + z.y) = G + z.y := IntWalk.i64_in _ ⟨by omega, by omega⟩
          have d4' : w1.cell? ⟨b, off + 4, none⟩ = some (.int .i64 z.y) := (kS.1 b _ hb').trans d4
          have oX := carryB kS.2 hlB HB.out
          have oC := cell_of_block oX
          have HO := Lib.hid oX
          have HE := Lib.hid he
          clear hHeld kS k1 d0 d1 d2 d3 d4 hcB hy oX he
          go_wp2_with fail
          go_roundw
          case rel =>
            refine ⟨0 + 1, by omega, ?_, ?_, fun j hj => ?_, HO.out, K1⟩
            · go_num
            · rw [HG.out]
            · by_cases hjk : j = 0
              · subst hjk; exact HE.out
              · exact HA.out j (by omega)
          case measure => simp [intOf]; omega
      · obtain ⟨m, rfl⟩ : ∃ m, k = m + 1 := ⟨k - 1, by omega⟩
        have hmz : m < es.length := by omega
        obtain ⟨b', off', eb, hbm, hcm⟩ := five_at R0.out m hmz
        simp only [Option.some.injEq, Addr.mk.injEq, and_true] at eb
        obtain ⟨rfl, rfl⟩ := eb
        have p0 := (hcm wr hbel).1
        have HZ := Lib.hid hez
        have HT := Lib.hid (entAt_next HA.out hez (entN_get hmz))
        have hw1 : IntKind.i64.wrap ((m : Int) + 1 - 1) = (m : Int) := by rw [Int.add_sub_cancel]; exact IntWalk.i64_in _ ⟨by omega, by omega⟩
        have hg1' : (0 : Int) < (m : Int) + 1 := by omega
        have hmW : IntKind.i64.wrap (m : Int) = (m : Int) := IntWalk.i64_in _ ⟨by omega, by omega⟩
        have hmA : (0 : Int) ≤ (m : Int) := by omega
        have hmB : (m : Int) < (n0 : Int) := by omega
        clear hcm hbm
        generalize es[m] = pr at *
        rw [show ((m + 1 : Nat) : Int) = (m : Int) + 1 from rfl] at *
        cases e1 : figS z.c z.n z.o z.x z.y with
        | false =>
          go_wp2_with fail
          refine wp_region_held_drew (S := fun w' => (∀ b o, b < wr.heap.size → w'.cell? ⟨b, o, none⟩ = wr.cell? ⟨b, o, none⟩) ∧ Below wr.heap.size wr w') (by kernel_rfl) (Kept.start wr) (fun hHeld => ?_)
          refine wpAnyH_take (i := 0) (oi := _) (v := ?_) (by (simp only [List.getElem?_toArray]; rfl)) (by kernel_rfl) (by kernel_rfl) (by kernel_rfl) (by exact fun _ _ _ h => h) (Or.inl ⟨by rfl, ?_⟩) (by assumption) ?_
          rotate_left
          · intro wS hSw
            go_simp
            all_goals first | with_reducible rfl | rw [if_neg (by omega)]
          simp only [Act.put, List.setIfInBounds_toArray, List.set]
          refine wpAnyH_take (i := 1) (oi := _) (v := ?_) (by (simp only [List.getElem?_toArray]; rfl)) (by kernel_rfl) (by kernel_rfl) (by kernel_rfl) (by exact fun _ _ _ h => h) (Or.inl ⟨by rfl, ?_⟩) (by assumption) ?_
          rotate_left
          · intro wS hSw
            go_simp
            all_goals first | with_reducible rfl | rw [if_neg (by omega)]
          simp only [Act.put, List.setIfInBounds_toArray, List.set]
          refine wpAnyH_take (i := 2) (oi := _) (v := ?_) (by (simp only [List.getElem?_toArray]; rfl)) (by kernel_rfl) (by kernel_rfl) (by kernel_rfl) (by exact fun _ _ _ h => h) (Or.inl ⟨by rfl, ?_⟩) (by assumption) ?_
          rotate_left
          · intro wS hSw
            go_simp
            all_goals first | with_reducible rfl | rw [if_neg (by omega)]
          simp only [Act.put, List.setIfInBounds_toArray, List.set]
          refine wpAnyH_take (i := 3) (oi := _) (v := ?_) (by (simp only [List.getElem?_toArray]; rfl)) (by kernel_rfl) (by kernel_rfl) (by kernel_rfl) (by exact fun _ _ _ h => h) (Or.inl ⟨by rfl, ?_⟩) (by assumption) ?_
          rotate_left
          · intro wS hSw
            go_simp
            all_goals first | with_reducible rfl | rw [if_neg (by omega)]
          simp only [Act.put, List.setIfInBounds_toArray, List.set]
          refine wpAnyH_take (i := 4) (oi := _) (v := ?_) (by (simp only [List.getElem?_toArray]; rfl)) (by kernel_rfl) (by kernel_rfl) (by kernel_rfl) (by exact fun _ _ _ h => h) (Or.inl ⟨by rfl, ?_⟩) (by assumption) ?_
          rotate_left
          · intro wS hSw
            go_simp
            all_goals first | with_reducible rfl | rw [if_neg (by omega)]
          simp only [Act.put, List.setIfInBounds_toArray, List.set]
          refine wpAnyH_ready (rs := [5]) (by kernel_rfl) (by simp) ?_
          refine AllReadyH.cons (o := _) (by (simp only [List.getElem?_toArray]; rfl)) (fun K hK => ?_) AllReadyH.nil
          go_simp
          refine (l2EntOk_v z.c z.n z.o z.x z.y _ _ e1).mono ?_
          rintro e w1 ⟨rfl, k1⟩
          have kS := Kept.next (Nat.le_refl _) (Kept.start wr) k1
          have K1 := below_next hbel kS.2
          refine hK.out _ _ kS (fun hHeld => ?_)
          clear hK K
          try simp only [Act.put, List.setIfInBounds_toArray, List.set]
          refine wpAnyH_take (i := 6) (oi := _) (v := ?_) (by (simp only [List.getElem?_toArray]; rfl)) (by kernel_rfl) (by kernel_rfl) (by kernel_rfl) (by exact fun _ _ _ h => h) (Or.inl ⟨by rfl, ?_⟩) (by assumption) ?_
          rotate_left
          · intro wS hSw
            go_simp
            all_goals first | with_reducible rfl | rw [if_neg (by omega)]
          simp only [Act.put, List.setIfInBounds_toArray, List.set]
          refine wpAnyH_take (i := 7) (oi := _) (v := ?_) (by (simp only [List.getElem?_toArray]; rfl)) (by kernel_rfl) (by kernel_rfl) (by kernel_rfl) (by exact fun _ _ _ h => h) (Or.inl ⟨by rfl, ?_⟩) (by assumption) ?_
          rotate_left
          · intro wS hSw
            go_simp
            all_goals first | with_reducible rfl | rw [if_neg (by omega)]
          simp only [Act.put, List.setIfInBounds_toArray, List.set]
          refine wpAnyH_take (i := 8) (oi := _) (v := undef) (by (simp only [List.getElem?_toArray]; rfl)) (by kernel_rfl) (by kernel_rfl) (by kernel_rfl) (by exact fun _ _ _ h => h) (Or.inr ⟨by rfl, rfl⟩) (by assumption) ?_
          simp only [Act.put, List.setIfInBounds_toArray, List.set]
          refine wpAnyH_take (i := 9) (oi := _) (v := undef) (by (simp only [List.getElem?_toArray]; rfl)) (by kernel_rfl) (by kernel_rfl) (by kernel_rfl) (by exact fun _ _ _ h => h) (Or.inr ⟨by rfl, rfl⟩) (by assumption) ?_
          simp only [Act.put, List.setIfInBounds_toArray, List.set]
          refine wpAnyH_take (i := 10) (oi := _) (v := undef) (by (simp only [List.getElem?_toArray]; rfl)) (by kernel_rfl) (by kernel_rfl) (by kernel_rfl) (by exact fun _ _ _ h => h) (Or.inr ⟨by rfl, rfl⟩) (by assumption) ?_
          simp only [Act.put, List.setIfInBounds_toArray, List.set]
          refine wpAnyH_take (i := 11) (oi := _) (v := undef) (by (simp only [List.getElem?_toArray]; rfl)) (by kernel_rfl) (by kernel_rfl) (by kernel_rfl) (by exact fun _ _ _ h => h) (Or.inr ⟨by rfl, rfl⟩) (by assumption) ?_
          simp only [Act.put, List.setIfInBounds_toArray, List.set]
          refine wpAnyH_take (i := 12) (oi := _) (v := undef) (by (simp only [List.getElem?_toArray]; rfl)) (by kernel_rfl) (by kernel_rfl) (by kernel_rfl) (by exact fun _ _ _ h => h) (Or.inr ⟨by rfl, rfl⟩) (by assumption) ?_
          simp only [Act.put, List.setIfInBounds_toArray, List.set]
          refine wpAnyH_take (i := 13) (oi := _) (v := undef) (by (simp only [List.getElem?_toArray]; rfl)) (by kernel_rfl) (by kernel_rfl) (by kernel_rfl) (by exact fun _ _ _ h => h) (Or.inr ⟨by rfl, rfl⟩) (by assumption) ?_
          simp only [Act.put, List.setIfInBounds_toArray, List.set]
          refine wpAnyH_take (i := 14) (oi := _) (v := undef) (by (simp only [List.getElem?_toArray]; rfl)) (by kernel_rfl) (by kernel_rfl) (by kernel_rfl) (by exact fun _ _ _ h => h) (Or.inr ⟨by rfl, rfl⟩) (by assumption) ?_
          simp only [Act.put, List.setIfInBounds_toArray, List.set]
          refine wpAnyH_take (i := 15) (oi := _) (v := undef) (by (simp only [List.getElem?_toArray]; rfl)) (by kernel_rfl) (by kernel_rfl) (by kernel_rfl) (by exact fun _ _ _ h => h) (Or.inr ⟨by rfl, rfl⟩) (by assumption) ?_
          simp only [Act.put, List.setIfInBounds_toArray, List.set]
          refine wpAnyH_take (i := 16) (oi := _) (v := undef) (by (simp only [List.getElem?_toArray]; rfl)) (by kernel_rfl) (by kernel_rfl) (by kernel_rfl) (by exact fun _ _ _ h => h) (Or.inr ⟨by rfl, rfl⟩) (by assumption) ?_
          simp only [Act.put, List.setIfInBounds_toArray, List.set]
          refine wpAnyH_take (i := 17) (oi := _) (v := undef) (by (simp only [List.getElem?_toArray]; rfl)) (by kernel_rfl) (by kernel_rfl) (by kernel_rfl) (by exact fun _ _ _ h => h) (Or.inr ⟨by rfl, rfl⟩) (by assumption) ?_
          simp only [Act.put, List.setIfInBounds_toArray, List.set]
          refine wpAnyH_take (i := 18) (oi := _) (v := undef) (by (simp only [List.getElem?_toArray]; rfl)) (by kernel_rfl) (by kernel_rfl) (by kernel_rfl) (by exact fun _ _ _ h => h) (Or.inr ⟨by rfl, rfl⟩) (by assumption) ?_
          simp only [Act.put, List.setIfInBounds_toArray, List.set]
          refine wpAnyH_take (i := 19) (oi := _) (v := undef) (by (simp only [List.getElem?_toArray]; rfl)) (by kernel_rfl) (by kernel_rfl) (by kernel_rfl) (by exact fun _ _ _ h => h) (Or.inr ⟨by rfl, rfl⟩) (by assumption) ?_
          simp only [Act.put, List.setIfInBounds_toArray, List.set]
          refine wpAnyH_take (i := 20) (oi := _) (v := undef) (by (simp only [List.getElem?_toArray]; rfl)) (by kernel_rfl) (by kernel_rfl) (by kernel_rfl) (by exact fun _ _ _ h => h) (Or.inr ⟨by rfl, rfl⟩) (by assumption) ?_
          simp only [Act.put, List.setIfInBounds_toArray, List.set]
          refine wpAnyH_take (i := 21) (oi := _) (v := undef) (by (simp only [List.getElem?_toArray]; rfl)) (by kernel_rfl) (by kernel_rfl) (by kernel_rfl) (by exact fun _ _ _ h => h) (Or.inr ⟨by rfl, rfl⟩) (by assumption) ?_
          simp only [Act.put, List.setIfInBounds_toArray, List.set]
          refine wpAnyH_take (i := 22) (oi := _) (v := undef) (by (simp only [List.getElem?_toArray]; rfl)) (by kernel_rfl) (by kernel_rfl) (by kernel_rfl) (by exact fun _ _ _ h => h) (Or.inr ⟨by rfl, rfl⟩) (by assumption) ?_
          simp only [Act.put, List.setIfInBounds_toArray, List.set]
          refine wpAnyH_take (i := 23) (oi := _) (v := undef) (by (simp only [List.getElem?_toArray]; rfl)) (by kernel_rfl) (by kernel_rfl) (by kernel_rfl) (by exact fun _ _ _ h => h) (Or.inr ⟨by rfl, rfl⟩) (by assumption) ?_
          simp only [Act.put, List.setIfInBounds_toArray, List.set]
          refine wpAnyH_take (i := 24) (oi := _) (v := undef) (by (simp only [List.getElem?_toArray]; rfl)) (by kernel_rfl) (by kernel_rfl) (by kernel_rfl) (by exact fun _ _ _ h => h) (Or.inr ⟨by rfl, rfl⟩) (by assumption) ?_
          simp only [Act.put, List.setIfInBounds_toArray, List.set]
          refine wpAnyH_take (i := 25) (oi := _) (v := undef) (by (simp only [List.getElem?_toArray]; rfl)) (by kernel_rfl) (by kernel_rfl) (by kernel_rfl) (by exact fun _ _ _ h => h) (Or.inr ⟨by rfl, rfl⟩) (by assumption) ?_
          simp only [Act.put, List.setIfInBounds_toArray, List.set]
          refine wpAnyH_take (i := 26) (oi := _) (v := ?_) (by (simp only [List.getElem?_toArray]; rfl)) (by kernel_rfl) (by kernel_rfl) (by kernel_rfl) (by exact fun _ _ _ h => h) (Or.inl ⟨by rfl, ?_⟩) (by assumption) ?_
          rotate_left
          · intro wS hSw
            go_simp
            all_goals first | with_reducible rfl | rw [if_neg (by omega)]
          simp only [Act.put, List.setIfInBounds_toArray, List.set]
          refine wpAnyH_done (by kernel_rfl) ?_ _
          clear hHeld kS k1
          go_wp2_with fail
          go_ret
          refine ⟨ret_bool ?_, K1⟩
          rw [entsB_bad hkz (by rw [HT.out]; rw [e1]; rfl)]
          rfl
        | true =>
          by_cases hle : z.c ≤ pr.c
          · go_wp2_with fail
            refine wp_region_held_drew (S := fun w' => (∀ b o, b < wr.heap.size → w'.cell? ⟨b, o, none⟩ = wr.cell? ⟨b, o, none⟩) ∧ Below wr.heap.size wr w') (by kernel_rfl) (Kept.start wr) (fun hHeld => ?_)
            refine wpAnyH_take (i := 0) (oi := _) (v := ?_) (by (simp only [List.getElem?_toArray]; rfl)) (by kernel_rfl) (by kernel_rfl) (by kernel_rfl) (by exact fun _ _ _ h => h) (Or.inl ⟨by rfl, ?_⟩) (by assumption) ?_
            rotate_left
            · intro wS hSw
              go_simp
              all_goals first | with_reducible rfl | rw [if_neg (by omega)]
            simp only [Act.put, List.setIfInBounds_toArray, List.set]
            refine wpAnyH_take (i := 1) (oi := _) (v := ?_) (by (simp only [List.getElem?_toArray]; rfl)) (by kernel_rfl) (by kernel_rfl) (by kernel_rfl) (by exact fun _ _ _ h => h) (Or.inl ⟨by rfl, ?_⟩) (by assumption) ?_
            rotate_left
            · intro wS hSw
              go_simp
              all_goals first | with_reducible rfl | rw [if_neg (by omega)]
            simp only [Act.put, List.setIfInBounds_toArray, List.set]
            refine wpAnyH_take (i := 2) (oi := _) (v := ?_) (by (simp only [List.getElem?_toArray]; rfl)) (by kernel_rfl) (by kernel_rfl) (by kernel_rfl) (by exact fun _ _ _ h => h) (Or.inl ⟨by rfl, ?_⟩) (by assumption) ?_
            rotate_left
            · intro wS hSw
              go_simp
              all_goals first | with_reducible rfl | rw [if_neg (by omega)]
            simp only [Act.put, List.setIfInBounds_toArray, List.set]
            refine wpAnyH_take (i := 3) (oi := _) (v := ?_) (by (simp only [List.getElem?_toArray]; rfl)) (by kernel_rfl) (by kernel_rfl) (by kernel_rfl) (by exact fun _ _ _ h => h) (Or.inl ⟨by rfl, ?_⟩) (by assumption) ?_
            rotate_left
            · intro wS hSw
              go_simp
              all_goals first | with_reducible rfl | rw [if_neg (by omega)]
            simp only [Act.put, List.setIfInBounds_toArray, List.set]
            refine wpAnyH_take (i := 4) (oi := _) (v := ?_) (by (simp only [List.getElem?_toArray]; rfl)) (by kernel_rfl) (by kernel_rfl) (by kernel_rfl) (by exact fun _ _ _ h => h) (Or.inl ⟨by rfl, ?_⟩) (by assumption) ?_
            rotate_left
            · intro wS hSw
              go_simp
              all_goals first | with_reducible rfl | rw [if_neg (by omega)]
            simp only [Act.put, List.setIfInBounds_toArray, List.set]
            refine wpAnyH_ready (rs := [5]) (by kernel_rfl) (by simp) ?_
            refine AllReadyH.cons (o := _) (by (simp only [List.getElem?_toArray]; rfl)) (fun K hK => ?_) AllReadyH.nil
            go_simp
            refine (l2EntOk_v z.c z.n z.o z.x z.y _ _ e1).mono ?_
            rintro e w1 ⟨rfl, k1⟩
            have kS := Kept.next (Nat.le_refl _) (Kept.start wr) k1
            have K1 := below_next hbel kS.2
            refine hK.out _ _ kS (fun hHeld => ?_)
            clear hK K
            try simp only [Act.put, List.setIfInBounds_toArray, List.set]
            refine wpAnyH_take (i := 6) (oi := _) (v := ?_) (by (simp only [List.getElem?_toArray]; rfl)) (by kernel_rfl) (by kernel_rfl) (by kernel_rfl) (by exact fun _ _ _ h => h) (Or.inl ⟨by rfl, ?_⟩) (by assumption) ?_
            rotate_left
            · intro wS hSw
              go_simp
              all_goals first | with_reducible rfl | rw [if_neg (by omega)]
            simp only [Act.put, List.setIfInBounds_toArray, List.set]
            refine wpAnyH_take (i := 7) (oi := _) (v := ?_) (by (simp only [List.getElem?_toArray]; rfl)) (by kernel_rfl) (by kernel_rfl) (by kernel_rfl) (by exact fun _ _ _ h => h) (Or.inl ⟨by rfl, ?_⟩) (by assumption) ?_
            rotate_left
            · intro wS hSw
              go_simp
              all_goals first | with_reducible rfl | rw [if_neg (by omega)]
            simp only [Act.put, List.setIfInBounds_toArray, List.set]
            refine wpAnyH_take (i := 8) (oi := _) (v := ?_) (by (simp only [List.getElem?_toArray]; rfl)) (by kernel_rfl) (by kernel_rfl) (by kernel_rfl) (by exact fun _ _ _ h => h) (Or.inl ⟨by rfl, ?_⟩) (by assumption) ?_
            rotate_left
            · intro wS hSw
              go_simp
              all_goals first | with_reducible rfl | rw [if_neg (by omega)]
            simp only [Act.put, List.setIfInBounds_toArray, List.set]
            refine wpAnyH_take (i := 9) (oi := _) (v := ?_) (by (simp only [List.getElem?_toArray]; rfl)) (by kernel_rfl) (by kernel_rfl) (by kernel_rfl) (by exact fun _ _ _ h => h) (Or.inl ⟨by rfl, ?_⟩) (by assumption) ?_
            rotate_left
            · intro wS hSw
              go_simp
              all_goals first | with_reducible rfl | rw [if_neg (by omega)]
            simp only [Act.put, List.setIfInBounds_toArray, List.set]
            refine wpAnyH_take (i := 10) (oi := _) (v := ?_) (by (simp only [List.getElem?_toArray]; rfl)) (by kernel_rfl) (by kernel_rfl) (by kernel_rfl) (by exact fun _ _ _ h => h) (Or.inl ⟨by rfl, ?_⟩) (by assumption) ?_
            rotate_left
            · intro wS hSw
              go_simp
              all_goals first | with_reducible rfl | rw [if_neg (by omega)]
            simp only [Act.put, List.setIfInBounds_toArray, List.set]
            refine wpAnyH_take (i := 11) (oi := _) (v := ?_) (by (simp only [List.getElem?_toArray]; rfl)) (by kernel_rfl) (by kernel_rfl) (by kernel_rfl) (by exact fun _ _ _ h => h) (Or.inl ⟨by rfl, ?_⟩) (by assumption) ?_
            rotate_left
            · intro wS hSw
              go_simp
              all_goals first | with_reducible rfl | rw [if_neg (by omega)]
            simp only [Act.put, List.setIfInBounds_toArray, List.set]
            refine wpAnyH_take (i := 12) (oi := _) (v := ?_) (by (simp only [List.getElem?_toArray]; rfl)) (by kernel_rfl) (by kernel_rfl) (by kernel_rfl) (by exact fun _ _ _ h => h) (Or.inl ⟨by rfl, ?_⟩) (by assumption) ?_
            rotate_left
            · intro wS hSw
              go_simp
              all_goals first | with_reducible rfl | rw [if_neg (by omega)]
            simp only [Act.put, List.setIfInBounds_toArray, List.set]
            refine wpAnyH_take (i := 13) (oi := _) (v := ?_) (by (simp only [List.getElem?_toArray]; rfl)) (by kernel_rfl) (by kernel_rfl) (by kernel_rfl) (by exact fun _ _ _ h => h) (Or.inl ⟨by rfl, ?_⟩) (by assumption) ?_
            rotate_left
            · intro wS hSw
              go_simp
              all_goals first | with_reducible rfl | rw [if_neg (by omega)]
            simp only [Act.put, List.setIfInBounds_toArray, List.set]
            refine wpAnyH_take (i := 14) (oi := _) (v := ?_) (by (simp only [List.getElem?_toArray]; rfl)) (by kernel_rfl) (by kernel_rfl) (by kernel_rfl) (by exact fun _ _ _ h => h) (Or.inl ⟨by rfl, ?_⟩) (by assumption) ?_
            rotate_left
            · intro wS hSw
              go_simp
              all_goals first | with_reducible rfl | rw [if_neg (by omega)]
            simp only [Act.put, List.setIfInBounds_toArray, List.set]
            refine wpAnyH_take (i := 15) (oi := _) (v := ?_) (by (simp only [List.getElem?_toArray]; rfl)) (by kernel_rfl) (by kernel_rfl) (by kernel_rfl) (by exact fun _ _ _ h => h) (Or.inl ⟨by rfl, ?_⟩) (by assumption) ?_
            rotate_left
            · intro wS hSw
              go_simp
              all_goals first | with_reducible rfl | rw [if_neg (by omega)]
            simp only [Act.put, List.setIfInBounds_toArray, List.set]
            refine wpAnyH_take (i := 16) (oi := _) (v := ?_) (by (simp only [List.getElem?_toArray]; rfl)) (by kernel_rfl) (by kernel_rfl) (by kernel_rfl) (by exact fun _ _ _ h => h) (Or.inl ⟨by rfl, ?_⟩) (by assumption) ?_
            rotate_left
            · intro wS hSw
              go_simp
              all_goals first | with_reducible rfl | rw [if_neg (by omega)]
            simp only [Act.put, List.setIfInBounds_toArray, List.set]
            refine wpAnyH_take (i := 17) (oi := _) (v := ?_) (by (simp only [List.getElem?_toArray]; rfl)) (by kernel_rfl) (by kernel_rfl) (by kernel_rfl) (by exact fun _ _ _ h => h) (Or.inl ⟨by rfl, ?_⟩) (by assumption) ?_
            rotate_left
            · intro wS hSw
              go_simp
              all_goals first | with_reducible rfl | rw [if_neg (by omega)]
            simp only [Act.put, List.setIfInBounds_toArray, List.set]
            refine wpAnyH_take (i := 18) (oi := _) (v := ?_) (by (simp only [List.getElem?_toArray]; rfl)) (by kernel_rfl) (by kernel_rfl) (by kernel_rfl) (by exact fun _ _ _ h => h) (Or.inl ⟨by rfl, ?_⟩) (by assumption) ?_
            rotate_left
            · intro wS hSw
              go_simp
              all_goals first | with_reducible rfl | rw [if_neg (by omega)]
            simp only [Act.put, List.setIfInBounds_toArray, List.set]
            refine wpAnyH_take (i := 19) (oi := _) (v := ?_) (by (simp only [List.getElem?_toArray]; rfl)) (by kernel_rfl) (by kernel_rfl) (by kernel_rfl) (by exact fun _ _ _ h => h) (Or.inl ⟨by rfl, ?_⟩) (by assumption) ?_
            rotate_left
            · intro wS hSw
              go_simp
              all_goals first | with_reducible rfl | rw [if_neg (by omega)]
            simp only [Act.put, List.setIfInBounds_toArray, List.set]
            refine wpAnyH_take (i := 20) (oi := _) (v := ?_) (by (simp only [List.getElem?_toArray]; rfl)) (by kernel_rfl) (by kernel_rfl) (by kernel_rfl) (by exact fun _ _ _ h => h) (Or.inl ⟨by rfl, ?_⟩) (by assumption) ?_
            rotate_left
            · intro wS hSw
              go_simp
              all_goals first | with_reducible rfl | rw [if_neg (by omega)]
            simp only [Act.put, List.setIfInBounds_toArray, List.set]
            refine wpAnyH_take (i := 21) (oi := _) (v := ?_) (by (simp only [List.getElem?_toArray]; rfl)) (by kernel_rfl) (by kernel_rfl) (by kernel_rfl) (by exact fun _ _ _ h => h) (Or.inl ⟨by rfl, ?_⟩) (by assumption) ?_
            rotate_left
            · intro wS hSw
              go_simp
              all_goals first | with_reducible rfl | rw [if_neg (by omega)]
            simp only [Act.put, List.setIfInBounds_toArray, List.set]
            refine wpAnyH_take (i := 22) (oi := _) (v := ?_) (by (simp only [List.getElem?_toArray]; rfl)) (by kernel_rfl) (by kernel_rfl) (by kernel_rfl) (by exact fun _ _ _ h => h) (Or.inl ⟨by rfl, ?_⟩) (by assumption) ?_
            rotate_left
            · intro wS hSw
              go_simp
              all_goals first | with_reducible rfl | rw [if_neg (by omega)]
            simp only [Act.put, List.setIfInBounds_toArray, List.set]
            refine wpAnyH_take (i := 23) (oi := _) (v := ?_) (by (simp only [List.getElem?_toArray]; rfl)) (by kernel_rfl) (by kernel_rfl) (by kernel_rfl) (by exact fun _ _ _ h => h) (Or.inl ⟨by rfl, ?_⟩) (by assumption) ?_
            rotate_left
            · intro wS hSw
              go_simp
              all_goals first | with_reducible rfl | rw [if_neg (by omega)]
            simp only [Act.put, List.setIfInBounds_toArray, List.set]
            refine wpAnyH_take (i := 24) (oi := _) (v := ?_) (by (simp only [List.getElem?_toArray]; rfl)) (by kernel_rfl) (by kernel_rfl) (by kernel_rfl) (by exact fun _ _ _ h => h) (Or.inl ⟨by rfl, ?_⟩) (by assumption) ?_
            rotate_left
            · intro wS hSw
              go_simp
              all_goals first | with_reducible rfl | rw [if_neg (by omega)]
            simp only [Act.put, List.setIfInBounds_toArray, List.set]
            refine wpAnyH_take (i := 25) (oi := _) (v := ?_) (by (simp only [List.getElem?_toArray]; rfl)) (by kernel_rfl) (by kernel_rfl) (by kernel_rfl) (by exact fun _ _ _ h => h) (Or.inl ⟨by rfl, ?_⟩) (by assumption) ?_
            rotate_left
            · intro wS hSw
              go_simp
              all_goals first | with_reducible rfl | rw [if_neg (by omega)]
            simp only [Act.put, List.setIfInBounds_toArray, List.set]
            refine wpAnyH_take (i := 26) (oi := _) (v := ?_) (by (simp only [List.getElem?_toArray]; rfl)) (by kernel_rfl) (by kernel_rfl) (by kernel_rfl) (by exact fun _ _ _ h => h) (Or.inl ⟨by rfl, ?_⟩) (by assumption) ?_
            rotate_left
            · intro wS hSw
              go_simp
              all_goals first | with_reducible rfl | rw [if_neg (by omega)]
            simp only [Act.put, List.setIfInBounds_toArray, List.set]
            refine wpAnyH_done (by kernel_rfl) ?_ _
            clear hHeld kS k1
            go_wp2_with fail
            go_ret
            refine ⟨ret_bool ?_, K1⟩
            rw [entsB_bad hkz (by rw [HT.out]; rw [e1]; simp [hle])]
            rfl
          · go_wp2_with fail
            refine wp_region_held_drew (S := fun w' => (∀ b o, b < wr.heap.size → w'.cell? ⟨b, o, none⟩ = wr.cell? ⟨b, o, none⟩) ∧ Below wr.heap.size wr w') (by kernel_rfl) (Kept.start wr) (fun hHeld => ?_)
            refine wpAnyH_take (i := 0) (oi := _) (v := ?_) (by (simp only [List.getElem?_toArray]; rfl)) (by kernel_rfl) (by kernel_rfl) (by kernel_rfl) (by exact fun _ _ _ h => h) (Or.inl ⟨by rfl, ?_⟩) (by assumption) ?_
            rotate_left
            · intro wS hSw
              go_simp
              all_goals first | with_reducible rfl | rw [if_neg (by omega)]
            simp only [Act.put, List.setIfInBounds_toArray, List.set]
            refine wpAnyH_take (i := 1) (oi := _) (v := ?_) (by (simp only [List.getElem?_toArray]; rfl)) (by kernel_rfl) (by kernel_rfl) (by kernel_rfl) (by exact fun _ _ _ h => h) (Or.inl ⟨by rfl, ?_⟩) (by assumption) ?_
            rotate_left
            · intro wS hSw
              go_simp
              all_goals first | with_reducible rfl | rw [if_neg (by omega)]
            simp only [Act.put, List.setIfInBounds_toArray, List.set]
            refine wpAnyH_take (i := 2) (oi := _) (v := ?_) (by (simp only [List.getElem?_toArray]; rfl)) (by kernel_rfl) (by kernel_rfl) (by kernel_rfl) (by exact fun _ _ _ h => h) (Or.inl ⟨by rfl, ?_⟩) (by assumption) ?_
            rotate_left
            · intro wS hSw
              go_simp
              all_goals first | with_reducible rfl | rw [if_neg (by omega)]
            simp only [Act.put, List.setIfInBounds_toArray, List.set]
            refine wpAnyH_take (i := 3) (oi := _) (v := ?_) (by (simp only [List.getElem?_toArray]; rfl)) (by kernel_rfl) (by kernel_rfl) (by kernel_rfl) (by exact fun _ _ _ h => h) (Or.inl ⟨by rfl, ?_⟩) (by assumption) ?_
            rotate_left
            · intro wS hSw
              go_simp
              all_goals first | with_reducible rfl | rw [if_neg (by omega)]
            simp only [Act.put, List.setIfInBounds_toArray, List.set]
            refine wpAnyH_take (i := 4) (oi := _) (v := ?_) (by (simp only [List.getElem?_toArray]; rfl)) (by kernel_rfl) (by kernel_rfl) (by kernel_rfl) (by exact fun _ _ _ h => h) (Or.inl ⟨by rfl, ?_⟩) (by assumption) ?_
            rotate_left
            · intro wS hSw
              go_simp
              all_goals first | with_reducible rfl | rw [if_neg (by omega)]
            simp only [Act.put, List.setIfInBounds_toArray, List.set]
            refine wpAnyH_ready (rs := [5]) (by kernel_rfl) (by simp) ?_
            refine AllReadyH.cons (o := _) (by (simp only [List.getElem?_toArray]; rfl)) (fun K hK => ?_) AllReadyH.nil
            go_simp
            refine (l2EntOk_v z.c z.n z.o z.x z.y _ _ e1).mono ?_
            rintro e w1 ⟨rfl, k1⟩
            have kS := Kept.next (Nat.le_refl _) (Kept.start wr) k1
            have K1 := below_next hbel kS.2
            refine hK.out _ _ kS (fun hHeld => ?_)
            clear hK K
            try simp only [Act.put, List.setIfInBounds_toArray, List.set]
            refine wpAnyH_take (i := 6) (oi := _) (v := ?_) (by (simp only [List.getElem?_toArray]; rfl)) (by kernel_rfl) (by kernel_rfl) (by kernel_rfl) (by exact fun _ _ _ h => h) (Or.inl ⟨by rfl, ?_⟩) (by assumption) ?_
            rotate_left
            · intro wS hSw
              go_simp
              all_goals first | with_reducible rfl | rw [if_neg (by omega)]
            simp only [Act.put, List.setIfInBounds_toArray, List.set]
            refine wpAnyH_take (i := 7) (oi := _) (v := ?_) (by (simp only [List.getElem?_toArray]; rfl)) (by kernel_rfl) (by kernel_rfl) (by kernel_rfl) (by exact fun _ _ _ h => h) (Or.inl ⟨by rfl, ?_⟩) (by assumption) ?_
            rotate_left
            · intro wS hSw
              go_simp
              all_goals first | with_reducible rfl | rw [if_neg (by omega)]
            simp only [Act.put, List.setIfInBounds_toArray, List.set]
            refine wpAnyH_take (i := 8) (oi := _) (v := ?_) (by (simp only [List.getElem?_toArray]; rfl)) (by kernel_rfl) (by kernel_rfl) (by kernel_rfl) (by exact fun _ _ _ h => h) (Or.inl ⟨by rfl, ?_⟩) (by assumption) ?_
            rotate_left
            · intro wS hSw
              go_simp
              all_goals first | with_reducible rfl | rw [if_neg (by omega)]
            simp only [Act.put, List.setIfInBounds_toArray, List.set]
            refine wpAnyH_take (i := 9) (oi := _) (v := ?_) (by (simp only [List.getElem?_toArray]; rfl)) (by kernel_rfl) (by kernel_rfl) (by kernel_rfl) (by exact fun _ _ _ h => h) (Or.inl ⟨by rfl, ?_⟩) (by assumption) ?_
            rotate_left
            · intro wS hSw
              go_simp
              all_goals first | with_reducible rfl | rw [if_neg (by omega)]
            simp only [Act.put, List.setIfInBounds_toArray, List.set]
            refine wpAnyH_take (i := 10) (oi := _) (v := ?_) (by (simp only [List.getElem?_toArray]; rfl)) (by kernel_rfl) (by kernel_rfl) (by kernel_rfl) (by exact fun _ _ _ h => h) (Or.inl ⟨by rfl, ?_⟩) (by assumption) ?_
            rotate_left
            · intro wS hSw
              go_simp
              all_goals first | with_reducible rfl | rw [if_neg (by omega)]
            simp only [Act.put, List.setIfInBounds_toArray, List.set]
            refine wpAnyH_take (i := 11) (oi := _) (v := ?_) (by (simp only [List.getElem?_toArray]; rfl)) (by kernel_rfl) (by kernel_rfl) (by kernel_rfl) (by exact fun _ _ _ h => h) (Or.inl ⟨by rfl, ?_⟩) (by assumption) ?_
            rotate_left
            · intro wS hSw
              go_simp
              all_goals first | with_reducible rfl | rw [if_neg (by omega)]
            simp only [Act.put, List.setIfInBounds_toArray, List.set]
            refine wpAnyH_take (i := 12) (oi := _) (v := ?_) (by (simp only [List.getElem?_toArray]; rfl)) (by kernel_rfl) (by kernel_rfl) (by kernel_rfl) (by exact fun _ _ _ h => h) (Or.inl ⟨by rfl, ?_⟩) (by assumption) ?_
            rotate_left
            · intro wS hSw
              go_simp
              all_goals first | with_reducible rfl | rw [if_neg (by omega)]
            simp only [Act.put, List.setIfInBounds_toArray, List.set]
            refine wpAnyH_take (i := 13) (oi := _) (v := ?_) (by (simp only [List.getElem?_toArray]; rfl)) (by kernel_rfl) (by kernel_rfl) (by kernel_rfl) (by exact fun _ _ _ h => h) (Or.inl ⟨by rfl, ?_⟩) (by assumption) ?_
            rotate_left
            · intro wS hSw
              go_simp
              all_goals first | with_reducible rfl | rw [if_neg (by omega)]
            simp only [Act.put, List.setIfInBounds_toArray, List.set]
            refine wpAnyH_take (i := 14) (oi := _) (v := ?_) (by (simp only [List.getElem?_toArray]; rfl)) (by kernel_rfl) (by kernel_rfl) (by kernel_rfl) (by exact fun _ _ _ h => h) (Or.inl ⟨by rfl, ?_⟩) (by assumption) ?_
            rotate_left
            · intro wS hSw
              go_simp
              all_goals first | with_reducible rfl | rw [if_neg (by omega)]
            simp only [Act.put, List.setIfInBounds_toArray, List.set]
            refine wpAnyH_take (i := 15) (oi := _) (v := ?_) (by (simp only [List.getElem?_toArray]; rfl)) (by kernel_rfl) (by kernel_rfl) (by kernel_rfl) (by exact fun _ _ _ h => h) (Or.inl ⟨by rfl, ?_⟩) (by assumption) ?_
            rotate_left
            · intro wS hSw
              go_simp
              all_goals first | with_reducible rfl | rw [if_neg (by omega)]
            simp only [Act.put, List.setIfInBounds_toArray, List.set]
            refine wpAnyH_take (i := 16) (oi := _) (v := ?_) (by (simp only [List.getElem?_toArray]; rfl)) (by kernel_rfl) (by kernel_rfl) (by kernel_rfl) (by exact fun _ _ _ h => h) (Or.inl ⟨by rfl, ?_⟩) (by assumption) ?_
            rotate_left
            · intro wS hSw
              go_simp
              all_goals first | with_reducible rfl | rw [if_neg (by omega)]
            simp only [Act.put, List.setIfInBounds_toArray, List.set]
            refine wpAnyH_take (i := 17) (oi := _) (v := ?_) (by (simp only [List.getElem?_toArray]; rfl)) (by kernel_rfl) (by kernel_rfl) (by kernel_rfl) (by exact fun _ _ _ h => h) (Or.inl ⟨by rfl, ?_⟩) (by assumption) ?_
            rotate_left
            · intro wS hSw
              go_simp
              all_goals first | with_reducible rfl | rw [if_neg (by omega)]
            simp only [Act.put, List.setIfInBounds_toArray, List.set]
            refine wpAnyH_take (i := 18) (oi := _) (v := ?_) (by (simp only [List.getElem?_toArray]; rfl)) (by kernel_rfl) (by kernel_rfl) (by kernel_rfl) (by exact fun _ _ _ h => h) (Or.inl ⟨by rfl, ?_⟩) (by assumption) ?_
            rotate_left
            · intro wS hSw
              go_simp
              all_goals first | with_reducible rfl | rw [if_neg (by omega)]
            simp only [Act.put, List.setIfInBounds_toArray, List.set]
            refine wpAnyH_take (i := 19) (oi := _) (v := ?_) (by (simp only [List.getElem?_toArray]; rfl)) (by kernel_rfl) (by kernel_rfl) (by kernel_rfl) (by exact fun _ _ _ h => h) (Or.inl ⟨by rfl, ?_⟩) (by assumption) ?_
            rotate_left
            · intro wS hSw
              go_simp
              all_goals first | with_reducible rfl | rw [if_neg (by omega)]
            simp only [Act.put, List.setIfInBounds_toArray, List.set]
            refine wpAnyH_take (i := 20) (oi := _) (v := ?_) (by (simp only [List.getElem?_toArray]; rfl)) (by kernel_rfl) (by kernel_rfl) (by kernel_rfl) (by exact fun _ _ _ h => h) (Or.inl ⟨by rfl, ?_⟩) (by assumption) ?_
            rotate_left
            · intro wS hSw
              go_simp
              all_goals first | with_reducible rfl | rw [if_neg (by omega)]
            simp only [Act.put, List.setIfInBounds_toArray, List.set]
            refine wpAnyH_take (i := 21) (oi := _) (v := ?_) (by (simp only [List.getElem?_toArray]; rfl)) (by kernel_rfl) (by kernel_rfl) (by kernel_rfl) (by exact fun _ _ _ h => h) (Or.inl ⟨by rfl, ?_⟩) (by assumption) ?_
            rotate_left
            · intro wS hSw
              go_simp
              all_goals first | with_reducible rfl | rw [if_neg (by omega)]
            simp only [Act.put, List.setIfInBounds_toArray, List.set]
            refine wpAnyH_take (i := 22) (oi := _) (v := ?_) (by (simp only [List.getElem?_toArray]; rfl)) (by kernel_rfl) (by kernel_rfl) (by kernel_rfl) (by exact fun _ _ _ h => h) (Or.inl ⟨by rfl, ?_⟩) (by assumption) ?_
            rotate_left
            · intro wS hSw
              go_simp
              all_goals first | with_reducible rfl | rw [if_neg (by omega)]
            simp only [Act.put, List.setIfInBounds_toArray, List.set]
            refine wpAnyH_take (i := 23) (oi := _) (v := ?_) (by (simp only [List.getElem?_toArray]; rfl)) (by kernel_rfl) (by kernel_rfl) (by kernel_rfl) (by exact fun _ _ _ h => h) (Or.inl ⟨by rfl, ?_⟩) (by assumption) ?_
            rotate_left
            · intro wS hSw
              go_simp
              all_goals first | with_reducible rfl | rw [if_neg (by omega)]
            simp only [Act.put, List.setIfInBounds_toArray, List.set]
            refine wpAnyH_take (i := 24) (oi := _) (v := ?_) (by (simp only [List.getElem?_toArray]; rfl)) (by kernel_rfl) (by kernel_rfl) (by kernel_rfl) (by exact fun _ _ _ h => h) (Or.inl ⟨by rfl, ?_⟩) (by assumption) ?_
            rotate_left
            · intro wS hSw
              go_simp
              all_goals first | with_reducible rfl | rw [if_neg (by omega)]
            simp only [Act.put, List.setIfInBounds_toArray, List.set]
            refine wpAnyH_take (i := 25) (oi := _) (v := ?_) (by (simp only [List.getElem?_toArray]; rfl)) (by kernel_rfl) (by kernel_rfl) (by kernel_rfl) (by exact fun _ _ _ h => h) (Or.inl ⟨by rfl, ?_⟩) (by assumption) ?_
            rotate_left
            · intro wS hSw
              go_simp
              all_goals first | with_reducible rfl | rw [if_neg (by omega)]
            simp only [Act.put, List.setIfInBounds_toArray, List.set]
            refine wpAnyH_take (i := 26) (oi := _) (v := ?_) (by (simp only [List.getElem?_toArray]; rfl)) (by kernel_rfl) (by kernel_rfl) (by kernel_rfl) (by exact fun _ _ _ h => h) (Or.inl ⟨by rfl, ?_⟩) (by assumption) ?_
            rotate_left
            · intro wS hSw
              go_simp
              all_goals first | with_reducible rfl | rw [if_neg (by omega)]
            simp only [Act.put, List.setIfInBounds_toArray, List.set]
            refine wpAnyH_done (by kernel_rfl) ?_ _
            have he : entAt es (m + 1) = true := by rw [HT.out]; rw [e1]; simp; omega
            have hy := (figB_iff _ _).1 he
            rw [show entN es (m + 1) = z from HZ.out] at hy
            have hGy : IntKind.i64.wrap (G + z.y) = G + z.y := IntWalk.i64_in _ ⟨by omega, by omega⟩
            have d4' : w1.cell? ⟨b, off + (m + 1) * 5 + 4, none⟩ = some (.int .i64 z.y) := (kS.1 b _ hb').trans d4
            have oX := carryB kS.2 hlB HB.out
            have oC := cell_of_block oX
            have HO := Lib.hid oX
            have HE := Lib.hid he
            clear hHeld kS k1 d0 d1 d2 d3 d4 hcB hy oX he
            go_wp2_with fail
            go_roundw
            case rel =>
              refine ⟨m + 1 + 1, by omega, ?_, ?_, fun j hj => ?_, HO.out, K1⟩
              · go_num
              · rw [HG.out]
              · by_cases hjk : j = m + 1
                · subst hjk; exact HE.out
                · exact HA.out j (by omega)
            case measure => simp [intOf]; omega
    · have hkk : n0 = k := by omega
      subst hkk
      have hents : entsB es = true := by
        rw [entsB_iff]
        exact fun j hj => HA.out j (by omega)
      rw [show es.take n0 = es by exact List.take_of_length_le (by omega)] at hg0 hg1 ⊢
      have HE := Lib.hid hents
      clear hents
      generalize hG : golds es = G at *
      go_wp2_with fail
      go_loopw [3, 5] (fun s i wr => ∃ k : Nat, k ≤ n1 ∧ i = .int .i64 k ∧ s = .int .i64 (G + (fl.take k).sum) ∧ (∀ j (hj : j < fl.length), j < k → inB fl[j] 0 20 = true) ∧ wr.heap[w.heap.size]? = some (.cells #[.slice a0 n0 c0, .slice a1 n1 c1, .slice a2 n2 c2] 46 (0, 0)) ∧ Below w.heap.size w wr) (fun _ i _ => n1 - (intOf i).toNat)
      case atStart => exact ⟨0, Nat.zero_le _, rfl, by simp, fun j _ hj => absurd hj (Nat.not_lt_zero j), HB.out, hbel⟩
      case round =>
        clear hcB hbel HB HA hlB hlt
        obtain ⟨k, hk, rfl, rfl, hall, hB, hbel⟩ := hrel
        obtain ⟨hs0, hs1⟩ := sum_bound (by omega) hall
        have HA := Lib.hid hall
        have HB := Lib.hid hB
        have hlB := lt_of_block hB
        have hcB := cell_of_block hB
        clear hall hB
        by_cases hlt : k < n1
        · have hkz : k < fl.length := by omega
          have hk1 : (k : Int) < (n1 : Int) := by omega
          have hk0 : (0 : Int) ≤ (k : Int) := by omega
          obtain ⟨b, off, rfl, hb, hcz⟩ := one_at R1.out k hkz
          have d0 := hcz wr hbel
          have HG := Lib.hid (sum_snoc hkz)
          clear hcz
          cases e1 : inB fl[k] 0 20 with
          | false =>
            go_wp2_with (go_at_call 104; refine (l1In_c _ _ _ _).mono ?_; rintro e w' ⟨rfl, rfl⟩)
            go_ret
            refine ⟨ret_bool ?_, hbel⟩
            rw [all_bad (p := fun n => inB n 0 20) hkz e1, HE.out]
            rfl
          | true =>
            have hy := (inB_iff _ _ _).1 e1
            have hGy : IntKind.i64.wrap (G + (fl.take k).sum + fl[k]) = G + (fl.take k).sum + fl[k] := IntWalk.i64_in _ ⟨by omega, by omega⟩
            go_wp2_with (go_at_call 104; refine (l1In_c _ _ _ _).mono ?_; rintro e w' ⟨rfl, rfl⟩)
            go_roundw
            case rel =>
              refine ⟨k + 1, by omega, ?_, ?_, fun j hj hjk => ?_, HB.out, hbel⟩
              · go_num
              · rw [HG.out, Int.add_assoc]
              · by_cases hjk' : j = k
                · subst hjk'; exact e1
                · exact HA.out j hj (by omega)
            case measure => simp [intOf]; omega
        · have hkk : n1 = k := by omega
          subst hkk
          have hfl : fl.all (fun n => inB n 0 20) = true := all_good HA.out (by omega)
          rw [show fl.take n1 = fl by exact List.take_of_length_le (by omega)] at hs0 hs1 ⊢
          have HF := Lib.hid hfl
          clear hfl HA hlt
          generalize hF : fl.sum = F at *
          go_wp2_with fail
          go_loopw [6] (fun i wr => ∃ k : Nat, k ≤ n2 ∧ i = .int .i64 k ∧ (∀ j (hj : j < la.length), j < k → inB la[j] 0 30 = true) ∧ wr.heap[w.heap.size]? = some (.cells #[.slice a0 n0 c0, .slice a1 n1 c1, .slice a2 n2 c2] 46 (0, 0)) ∧ Below w.heap.size w wr) (fun i _ => n2 - (intOf i).toNat)
          case atStart => exact ⟨0, Nat.zero_le _, rfl, fun j _ hj => absurd hj (Nat.not_lt_zero j), HB.out, hbel⟩
          case round =>
            clear hcB hbel HB hlB
            obtain ⟨k, hk, rfl, hall, hB, hbel⟩ := hrel
            have HA := Lib.hid hall
            have HB := Lib.hid hB
            have hlB := lt_of_block hB
            have hcB := cell_of_block hB
            clear hall hB
            by_cases hlt : k < n2
            · have hkz : k < la.length := by omega
              have hk1 : (k : Int) < (n2 : Int) := by omega
              have hk0 : (0 : Int) ≤ (k : Int) := by omega
              obtain ⟨b, off, rfl, hb, hcz⟩ := one_at R2.out k hkz
              have d0 := hcz wr hbel
              clear hcz
              cases e1 : inB la[k] 0 30 with
              | false =>
                go_wp2_with (go_at_call 104; refine (l1In_c _ _ _ _).mono ?_; rintro e w' ⟨rfl, rfl⟩)
                go_ret
                refine ⟨ret_bool ?_, hbel⟩
                rw [all_bad (p := fun n => inB n 0 30) hkz e1, HE.out, HF.out]
                rfl
              | true =>
                go_wp2_with (go_at_call 104; refine (l1In_c _ _ _ _).mono ?_; rintro e w' ⟨rfl, rfl⟩)
                go_roundw
                case rel =>
                  refine ⟨k + 1, by omega, ?_, fun j hj hjk => ?_, HB.out, hbel⟩
                  · go_num
                  · by_cases hjk' : j = k
                    · subst hjk'; exact e1
                    · exact HA.out j hj (by omega)
                case measure => simp [intOf]; omega
            · have HL := Lib.hid (show la.all (fun n => inB n 0 30) = true from all_good HA.out (by omega))
              clear HA HB
              by_cases q1 : n1 = 16
              · have q1' : ((n1 : Int) == 16) = true := by simp; omega
                have Q1 := Lib.hid q1
                clear q1
                by_cases q2 : n2 = 4
                · have q2' : ((n2 : Int) == 4) = true := by simp; omega
                  have Q2 := Lib.hid q2
                  clear q2
                  by_cases q3 : G + F = 20
                  · have q3' : (G + F == 20) = true := by simp; omega
                    have Q3 := Lib.hid q3
                    clear q3
                    go_wp2_with fail
                    go_ret
                    exact ⟨ret_bool (by rw [HE.out, HF.out, HL.out, hG, hF]; simp [Q1.out, Q2.out, Q3.out]), hbel⟩
                  · have q3' : (G + F == 20) = false := by simp; omega
                    have Q3 := Lib.hid q3
                    clear q3
                    go_wp2_with fail
                    go_ret
                    exact ⟨ret_bool (by rw [HE.out, HF.out, HL.out, hG, hF]; simp [Q3.out]), hbel⟩
                · have q2' : ((n2 : Int) == 4) = false := by simp; omega
                  have Q2 := Lib.hid q2
                  clear q2
                  go_wp2_with fail
                  go_ret
                  exact ⟨ret_bool (by rw [HE.out, HF.out, HL.out, hG, hF]; simp [Q2.out]), hbel⟩
              · have q1' : ((n1 : Int) == 16) = false := by simp; omega
                have Q1 := Lib.hid q1
                clear q1
                go_wp2_with fail
                go_ret
                exact ⟨ret_bool (by rw [HE.out, HF.out, HL.out, hG, hF]; simp [Q1.out]), hbel⟩

set_option maxHeartbeats 1000000 in
theorem sGameOk_c (z : Gm) (a0 a1 a2 : Option Addr) (c0 c1 c2 : Nat) (w : World) (h0 : IsSl w (.slice a0 z.es.length c0) 5 Rq.cs z.es) (h1 : IsSl w (.slice a1 z.fl.length c1) 1 intR z.fl) (h2 : IsSl w (.slice a2 z.la.length c2) 1 intR z.la)
    (hs : z.es.length + z.fl.length + z.la.length ≤ 1048576) :
    Calls Try.prog 44 #[.agg #[.slice a0 z.es.length c0, .slice a1 z.fl.length c1, .slice a2 z.la.length c2]] w fun e w' => e = .returned (.bool (gameB z)) ∧ Below w.heap.size w w' := by
  have H0 := Lib.hid h0
  have H1 := Lib.hid h1
  have H2 := Lib.hid h2
  clear h0 h1 h2
  go_enter Try.func44, Try.ntmps44
  go_wp2_with fail
  obtain ⟨W, hW, sW, aW, kW⟩ := blocks1 w (.cells #[.slice a0 z.es.length c0, .slice a1 z.fl.length c1, .slice a2 z.la.length c2] 46)
  rw [← hW]
  clear hW
  refine (l2Ok_c z a0 a1 a2 c0 c1 c2 _ (H0.out.below kW) (H1.out.below kW) (H2.out.below kW) hs).mono ?_
  rintro e w1 ⟨rfl, k1⟩
  have K1 := below_next kW k1
  go_wp2_with fail
  go_ret
  exact ⟨rfl, K1⟩
end Go.Proofs.Ytofedboeggdkaaa

/-! The place of a client's figure: the program's figure, the reference's l2At; near, l2Near; condition: small sizes. -/
namespace Go.Proofs.Ytofedboeggdkaaa
open Go.RowKit Go.Joins

/-- The place of a client's figure; -1: there is none. -/
def figI (es : List Rq) (c : Int) : Int := match figAt es c with | some k => (k : Int) | none => -1
theorem figI_some {es : List Rq} {c : Int} {k : Nat} (hk : k < es.length) (he : es[k].c = c) (hb : ∀ j (hj : j < es.length), j < k → es[j].c ≠ c) : figI es c = k := by
  have : figAt es c = some k := by
    unfold figAt
    rw [List.findIdx?_eq_some_iff_getElem]
    exact ⟨hk, by simpa using he, fun j hj => by simpa using hb j (by omega) hj⟩
  unfold figI
  rw [this]
theorem figI_none {es : List Rq} {c : Int} (hb : ∀ j (hj : j < es.length), es[j].c ≠ c) : figI es c = -1 := by
  have : figAt es c = none := by
    unfold figAt
    rw [List.findIdx?_eq_none_iff]
    intro x hx
    obtain ⟨j, hj, rfl⟩ := List.getElem_of_mem hx
    simpa using hb j hj
  unfold figI
  rw [this]

set_option maxHeartbeats 1000000 in
theorem figFn_c (z : Rq) (b : Nat) (c : Int) (w : World) (hc : w.heap[b]? = some (.cells #[.int .i64 c] 3 (0, 0))) :
    Calls Try.prog 133 #[.agg #[.int .i64 z.c, .int .i64 z.n, .int .i64 z.o, .int .i64 z.x, .int .i64 z.y], .pointer (some ⟨b, 0, none⟩)] w fun e w' => e = .returned (.bool (z.c == c)) ∧ Below w.heap.size w w' := by
  have HC := Lib.hid hc
  have hlt := lt_of_block hc
  have hcw := cell_of_block hc
  clear hc
  go_enter Try.func133, Try.ntmps133
  go_wp2_with fail
  go_ret
  exact ⟨rfl, (by repeat' (first | with_reducible exact Below.refl _ _ | with_reducible assumption | with_reducible refine Below.alloc ?_ ?_ _ | with_reducible refine Below.drew ?_ | with_reducible refine Below.setCell ?_ ?_ _ | omega | (simp; omega) | (simp; done)))⟩

set_option maxRecDepth 100000 in
set_option maxHeartbeats 2000000 in
theorem slIndexFuncEnt_c (a : Option Addr) (zs : List Rq) (c : Int) (b : Nat) (n cap : Nat) (w : World) (h : IsSl w (.slice a n cap) 5 Rq.cs zs) (hb : w.heap[b]? = some (.cells #[.int .i64 c] 3 (0, 0))) :
    Calls Try.prog 132 #[.slice a n cap, .func (.func 133) #[] #[.pointer (some ⟨b, 0, none⟩)]] w fun e w' => e = .returned (.int .i64 (figI zs c)) ∧ Below w.heap.size w w' := by
  obtain ⟨hnn, hlc, hm, hr⟩ := h.bounds
  have HR := Lib.hid hr
  have HB := Lib.hid hb
  clear hr h hb
  unfold maxLen at hm
  go_enter Try.func132, Try.ntmps132
  go_wp2_with fail
  go_loopw [8] (fun i wr => ∃ k : Nat, k ≤ n ∧ i = .int .i64 k ∧ (∀ j (hj : j < zs.length), j < k → zs[j].c ≠ c) ∧ Below w.heap.size w wr) (fun i _ => n - (intOf i).toNat)
  case atStart => exact ⟨0, Nat.zero_le _, rfl, fun j _ hj => absurd hj (Nat.not_lt_zero j), Below.refl _ _⟩
  case round =>
    obtain ⟨k, hk, rfl, hall, hbel⟩ := hrel
    have HA := Lib.hid hall
    clear hall
    by_cases hlt : k < n
    · have hkz : k < zs.length := by omega
      have hk1 : (k : Int) < (n : Int) := by omega
      have hk0 : (0 : Int) ≤ (k : Int) := by omega
      obtain ⟨b0, o0, rfl, hl0, hc0⟩ := five_at HR.out k hkz
      obtain ⟨c0, c1, c2, c3, c4⟩ := hc0 wr hbel
      clear hc0
      generalize hz : zs[k] = z at *
      have HZ := Lib.hid hz
      clear hz
      go_wp2_with fail
      refine (figFn_c z b c wr (carryN hbel HB.out)).mono ?_
      rintro e w1 ⟨rfl, k1⟩
      have hbel1 := below_next hbel k1
      clear c0 c1 c2 c3 c4 k1 hbel
      by_cases he : z.c = c
      · have he' : (z.c == c) = true := by simpa using he
        rw [he']
        go_wp2_with fail
        go_ret
        refine ⟨?_, hbel1⟩
        rw [figI_some hkz (by rw [HZ.out]; exact he) (fun j hj hjk => HA.out j hj hjk)]
        rfl
      · have he' : (z.c == c) = false := by simpa using he
        rw [he']
        go_wp2_with fail
        refine ⟨⟨k + 1, by omega, by go_num, fun j hj hjk => ?_, hbel1⟩, by simp [intOf]; omega⟩
        by_cases hjk' : j = k
        · subst hjk'; rw [HZ.out]; exact he
        · exact HA.out j hj (by omega)
    · have hkk : n = k := by omega
      subst hkk
      go_wp2_with fail
      go_ret
      refine ⟨?_, hbel⟩
      rw [figI_none (fun j hj => HA.out j hj (by omega))]
      rfl

set_option maxHeartbeats 1000000 in
theorem figure_c (es : List Rq) (c : Int) (a0 a1 a2 : Option Addr) (n0 n1 n2 c0 c1 c2 : Nat) (w : World) (h0 : IsSl w (.slice a0 n0 c0) 5 Rq.cs es) :
    Calls Try.prog 114 #[.agg #[.slice a0 n0 c0, .slice a1 n1 c1, .slice a2 n2 c2], .int .i64 c] w fun e w' => e = .returned (.int .i64 (figI es c)) ∧ Below w.heap.size w w' := by
  have H0 := Lib.hid h0
  clear h0
  go_enter Try.func114, Try.ntmps114
  go_wp2_with fail
  obtain ⟨W, hW, sW, aW, bW, kW⟩ := blocks2 w (.cells #[.slice a0 n0 c0, .slice a1 n1 c1, .slice a2 n2 c2] 46) (.cells #[.int .i64 c] 3)
  rw [← hW]
  clear hW
  refine (slIndexFuncEnt_c a0 es c (w.heap.size + 1) n0 c0 W (H0.out.below kW) bW).mono ?_
  rintro e w1 ⟨rfl, k1⟩
  have K1 := below_next kW k1
  go_wp2_with fail
  go_ret
  exact ⟨rfl, K1⟩

set_option maxRecDepth 100000 in
set_option maxHeartbeats 2000000 in
theorem l2At_c (es : List Rq) (c : Int) (a0 a1 a2 : Option Addr) (n0 n1 n2 c0 c1 c2 : Nat) (w : World) (h0 : IsSl w (.slice a0 n0 c0) 5 Rq.cs es) :
    Calls Try.prog 122 #[.agg #[.slice a0 n0 c0, .slice a1 n1 c1, .slice a2 n2 c2], .int .i64 c] w fun e w' => e = .returned (.int .i64 (figI es c)) ∧ Below w.heap.size w w' := by
  obtain ⟨hnn, hlc, hm, hr⟩ := h0.bounds
  have HR := Lib.hid hr
  clear hr h0
  unfold maxLen at hm
  go_enter Try.func122, Try.ntmps122
  go_wp2_with fail
  obtain ⟨W, hW, sW, aW, kW⟩ := blocks1 w (.cells #[.slice a0 n0 c0, .slice a1 n1 c1, .slice a2 n2 c2] 46)
  rw [← hW]
  clear hW
  have HA0 := Lib.hid aW
  clear aW
  go_loopw [5] (fun i wr => ∃ k : Nat, k ≤ n0 ∧ i = .int .i64 k ∧ (∀ j (hj : j < es.length), j < k → es[j].c ≠ c) ∧ Below W.heap.size W wr) (fun i _ => n0 - (intOf i).toNat)
  case atStart => exact ⟨0, Nat.zero_le _, rfl, fun j _ hj => absurd hj (Nat.not_lt_zero j), Below.refl _ _⟩
  case round =>
    obtain ⟨k, hk, rfl, hall, hbel⟩ := hrel
    have HA := Lib.hid hall
    clear hall
    have dA := cell_of_block (carryN hbel HA0.out)
    by_cases hlt : k < n0
    · have hkz : k < es.length := by omega
      have hk1 : (k : Int) < (n0 : Int) := by omega
      have hk0 : (0 : Int) ≤ (k : Int) := by omega
      obtain ⟨b0, o0, rfl, hl0, hc0⟩ := five_at HR.out k hkz
      obtain ⟨e0, e1, e2, e3, e4⟩ := hc0 wr (kW.trans (hbel.mono (by omega)))
      clear hc0
      generalize hz : es[k] = z at *
      have HZ := Lib.hid hz
      clear hz
      by_cases he : z.c = c
      · go_wp2_with fail
        go_ret
        refine ⟨?_, kW.trans (hbel.mono (by omega))⟩
        rw [figI_some hkz (by rw [HZ.out]; exact he) (fun j hj hjk => HA.out j hj hjk)]
        rfl
      · go_wp2_with fail
        refine ⟨⟨k + 1, by omega, by go_num, fun j hj hjk => ?_, hbel⟩, by simp [intOf]; omega⟩
        by_cases hjk' : j = k
        · subst hjk'; rw [HZ.out]; exact he
        · exact HA.out j hj (by omega)
    · have hkk : n0 = k := by omega
      subst hkk
      go_wp2_with fail
      go_ret
      refine ⟨?_, kW.trans (hbel.mono (by omega))⟩
      rw [figI_none (fun j hj => HA.out j hj (by omega))]
      rfl

set_option maxHeartbeats 1000000 in
theorem l2Near_c (a b : Rq) (w : World) (ha : 0 ≤ a.n ∧ a.n ≤ 3 ∧ 0 ≤ a.o ∧ a.o ≤ 3) (hb : 0 ≤ b.n ∧ b.n ≤ 3 ∧ 0 ≤ b.o ∧ b.o ≤ 3) :
    Calls Try.prog 137 #[.agg #[.int .i64 a.c, .int .i64 a.n, .int .i64 a.o, .int .i64 a.x, .int .i64 a.y], .agg #[.int .i64 b.c, .int .i64 b.n, .int .i64 b.o, .int .i64 b.x, .int .i64 b.y]] w fun e w' => e = .returned (.bool (nearB a b)) ∧ Below w.heap.size w w' := by
  have h1 : IntKind.i64.wrap (a.n - b.n) = a.n - b.n := IntWalk.i64_in _ ⟨by omega, by omega⟩
  have h2 : IntKind.i64.wrap (a.o - b.o) = a.o - b.o := IntWalk.i64_in _ ⟨by omega, by omega⟩
  clear ha hb
  unfold nearB
  cases hx : inB (a.n - b.n) (-1) 1 with
  | true =>
    go_enter Try.func137, Try.ntmps137
    go_wp2_with (go_at_call 104; refine (l1In_c _ _ _ _).mono ?_; rintro e w' ⟨rfl, rfl⟩)
    go_ret
    exact ⟨ret_bool (by simp), (by repeat' (first | with_reducible exact Below.refl _ _ | with_reducible assumption | with_reducible refine Below.alloc ?_ ?_ _ | with_reducible refine Below.drew ?_ | with_reducible refine Below.setCell ?_ ?_ _ | omega | (simp; omega) | (simp; done)))⟩
  | false =>
    go_enter Try.func137, Try.ntmps137
    go_wp2_with (go_at_call 104; refine (l1In_c _ _ _ _).mono ?_; rintro e w' ⟨rfl, rfl⟩)
    go_ret
    exact ⟨ret_bool (by simp), (by repeat' (first | with_reducible exact Below.refl _ _ | with_reducible assumption | with_reducible refine Below.alloc ?_ ?_ _ | with_reducible refine Below.drew ?_ | with_reducible refine Below.setCell ?_ ?_ _ | omega | (simp; omega) | (simp; done)))⟩

set_option maxHeartbeats 1000000 in
theorem near_c (a b : Rq) (w : World) (ha : 0 ≤ a.n ∧ a.n ≤ 3 ∧ 0 ≤ a.o ∧ a.o ≤ 3) (hb : 0 ≤ b.n ∧ b.n ≤ 3 ∧ 0 ≤ b.o ∧ b.o ≤ 3) :
    Calls Try.prog 117 #[.agg #[.int .i64 a.c, .int .i64 a.n, .int .i64 a.o, .int .i64 a.x, .int .i64 a.y], .agg #[.int .i64 b.c, .int .i64 b.n, .int .i64 b.o, .int .i64 b.x, .int .i64 b.y], .int .i64 1] w fun e w' => e = .returned (.bool (nearB a b)) ∧ Below w.heap.size w w' := by
  have h1 : IntKind.i64.wrap (a.n - b.n) = a.n - b.n := IntWalk.i64_in _ ⟨by omega, by omega⟩
  have h2 : IntKind.i64.wrap (a.o - b.o) = a.o - b.o := IntWalk.i64_in _ ⟨by omega, by omega⟩
  have h3 : IntKind.i64.wrap (-1) = -1 := by decide
  clear ha hb
  unfold nearB
  cases hx : inB (a.n - b.n) (-1) 1 with
  | true =>
    go_enter Try.func117, Try.ntmps117
    go_wp2_with (go_at_call 81; refine (in_c _ _ _ _).mono ?_; rintro e w' ⟨rfl, rfl⟩)
    go_ret
    exact ⟨ret_bool (by simp), (by repeat' (first | with_reducible exact Below.refl _ _ | with_reducible assumption | with_reducible refine Below.alloc ?_ ?_ _ | with_reducible refine Below.drew ?_ | with_reducible refine Below.setCell ?_ ?_ _ | omega | (simp; omega) | (simp; done)))⟩
  | false =>
    go_enter Try.func117, Try.ntmps117
    go_wp2_with (go_at_call 81; refine (in_c _ _ _ _).mono ?_; rintro e w' ⟨rfl, rfl⟩)
    go_ret
    exact ⟨ret_bool (by simp), (by repeat' (first | with_reducible exact Below.refl _ _ | with_reducible assumption | with_reducible refine Below.alloc ?_ ?_ _ | with_reducible refine Below.drew ?_ | with_reducible refine Below.setCell ?_ ?_ _ | omega | (simp; omega) | (simp; done)))⟩

/-- The square of a figure: where its gold lies. -/
theorem floor_c (e : Rq) (g off : Nat) (a0 a2 : Option Addr) (n0 n1 n2 c0 c1 c2 : Nat) (w : World) (hn : 0 ≤ e.n ∧ e.n ≤ 3) (ho : 0 ≤ e.o ∧ e.o ≤ 3) (h16 : n1 = 16) :
    Calls Try.prog 116 #[.agg #[.slice a0 n0 c0, .slice (some ⟨g, off, none⟩) n1 c1, .slice a2 n2 c2], .agg #[.int .i64 e.c, .int .i64 e.n, .int .i64 e.o, .int .i64 e.x, .int .i64 e.y]] w fun x w' => x = .returned (.pointer (some ⟨g, off + sqOf e, none⟩)) ∧ Below w.heap.size w w' := by
  subst h16
  have h1 : IntKind.i64.wrap (e.o * 4) = e.o * 4 := IntWalk.i64_in _ ⟨by omega, by omega⟩
  have h2 : IntKind.i64.wrap (e.o * 4 + e.n) = e.o * 4 + e.n := IntWalk.i64_in _ ⟨by omega, by omega⟩
  obtain ⟨q, hq, hq2⟩ : ∃ q : Nat, e.o * 4 + e.n = (q : Int) ∧ q < 16 := ⟨(e.o * 4 + e.n).toNat, by omega, by omega⟩
  have hs : sqOf e = q := by unfold sqOf; omega
  have h3 : (0 : Int) ≤ (q : Int) := by omega
  have h4 : (q : Int) < 16 := by omega
  rw [hs]
  rw [hq] at h2
  clear hn ho hs
  go_enter Try.func116, Try.ntmps116
  go_wp2_with fail
  go_ret
  exact ⟨rfl, (by repeat' (first | with_reducible exact Below.refl _ _ | with_reducible assumption | with_reducible refine Below.alloc ?_ ?_ _ | with_reducible refine Below.drew ?_ | with_reducible refine Below.setCell ?_ ?_ _ | omega | (simp; omega) | (simp; done)))⟩
end Go.Proofs.Ytofedboeggdkaaa

/-! A game in rows of its own: three rows apart from each other, kept, and one of them made anew; no condition. -/
namespace Go.Proofs.Ytofedboeggdkaaa
open Go.RowKit Go.Joins

/-- A game's three rows, each in a block of its own, from B on. -/
structure Own3 (w : World) (B : Nat) (a0 : Option Addr) (c0 : Nat) (a1 : Option Addr) (c1 : Nat) (a2 : Option Addr) (c2 : Nat) (z : Gm) : Prop where
  e : Row w B 92 a0 c0 5 Rq.cs z.es
  f : Row w B 3 a1 c1 1 intR z.fl
  l : Row w B 3 a2 c2 1 intR z.la
  ef : ∀ g, rowBlk a0 c0 = some g → rowBlk a1 c1 ≠ some g
  el : ∀ g, rowBlk a0 c0 = some g → rowBlk a2 c2 ≠ some g
  fl : ∀ g, rowBlk a1 c1 = some g → rowBlk a2 c2 ≠ some g

section
variable {w w' : World} {B : Nat} {a0 a1 a2 : Option Addr} {c0 c1 c2 : Nat} {z : Gm}
theorem Own3.gm (h : Own3 w B a0 c0 a1 c1 a2 c2 z) : OwnGm w B (.agg #[.slice a0 z.es.length c0, .slice a1 z.fl.length c1, .slice a2 z.la.length c2]) z :=
  ⟨a0, c0, a1, c1, a2, c2, rfl, h.e, h.f, h.l, h.ef, h.el, h.fl⟩
theorem OwnGm.rows {v : Value} (h : OwnGm w B v z) : ∃ a0 c0 a1 c1 a2 c2, v = .agg #[.slice a0 z.es.length c0, .slice a1 z.fl.length c1, .slice a2 z.la.length c2] ∧ Own3 w B a0 c0 a1 c1 a2 c2 z := by
  obtain ⟨a0, c0, a1, c1, a2, c2, hv, h1, h2, h3, h4, h5, h6⟩ := h
  exact ⟨a0, c0, a1, c1, a2, c2, hv, h1, h2, h3, h4, h5, h6⟩
theorem RowsAt.takeG {α : Type} {w : World} {a : Option Addr} {k : Nat} {R : α → List Value} {zs : List α} (h : RowsAt w a k R zs) (i : Nat) : RowsAt w a k R (zs.take i) := by
  intro j hj
  rw [List.length_take] at hj
  obtain ⟨b, off, q, hb, hc⟩ := h j (by omega)
  refine ⟨b, off, q, hb, fun t ht => ?_⟩
  rw [List.getElem_take]
  exact hc t ht
theorem RowsAt.tailG {α : Type} {w : World} {g off k : Nat} {R : α → List Value} {zs : List α} (h : RowsAt w (some ⟨g, off, none⟩) k R zs) (i c : Nat) (hc : c = i → zs.length ≤ i) : RowsAt w (if c = i then some ⟨g, off, none⟩ else some ⟨g, off + i * k, none⟩) k R (zs.drop i) := by
  split
  · rename_i he
    rw [List.drop_eq_nil_of_le (hc he)]
    exact RowsAt.empty _ _ _ _
  · exact h.drop i
theorem Row.slG {α : Type} {w : World} {B e cap k n : Nat} {a : Option Addr} {R : α → List Value} {zs : List α} (h : Row w B e a cap k R zs) (hR : ∀ z, (R z).length = k) (hn : zs.length = n) : IsSl w (.slice a n cap) k R zs := hn ▸ h.sl hR
theorem Own3.below (h : Own3 w B a0 c0 a1 c1 a2 c2 z) (k : Below w.heap.size w w') : Own3 w' B a0 c0 a1 c1 a2 c2 z :=
  ⟨h.e.below k, h.f.below k, h.l.below k, h.ef, h.el, h.fl⟩
theorem Own3.low {B' : Nat} (h : Own3 w B a0 c0 a1 c1 a2 c2 z) (k : B' ≤ B) : Own3 w B' a0 c0 a1 c1 a2 c2 z :=
  ⟨h.e.low k, h.f.low k, h.l.low k, h.ef, h.el, h.fl⟩
/-- One row made anew, behind all that was there. -/
theorem Own3.newE {B' c : Nat} {a : Option Addr} {es : List Rq} (h : Own3 w B a0 c0 a1 c1 a2 c2 z) (k : Below w.heap.size w w') (r : Row w' B' 92 a c 5 Rq.cs es) (hB : w.heap.size ≤ B') (hb : B ≤ w.heap.size) : Own3 w' B a c a1 c1 a2 c2 ⟨es, z.fl, z.la⟩ :=
  ⟨r.low (Nat.le_trans hb hB), h.f.below k, h.l.below k, fun g h1 h2 => by have := (r.blk h1).1; have := (h.f.blk h2).2; omega, fun g h1 h2 => by have := (r.blk h1).1; have := (h.l.blk h2).2; omega, h.fl⟩
theorem Own3.newF {B' c : Nat} {a : Option Addr} {fs : List Int} (h : Own3 w B a0 c0 a1 c1 a2 c2 z) (k : Below w.heap.size w w') (r : Row w' B' 3 a c 1 intR fs) (hB : w.heap.size ≤ B') (hb : B ≤ w.heap.size) : Own3 w' B a0 c0 a c a2 c2 ⟨z.es, fs, z.la⟩ :=
  ⟨h.e.below k, r.low (Nat.le_trans hb hB), h.l.below k, fun g h1 h2 => by have := (r.blk h2).1; have := (h.e.blk h1).2; omega, h.el, fun g h1 h2 => by have := (r.blk h1).1; have := (h.l.blk h2).2; omega⟩
theorem Own3.newL {B' c : Nat} {a : Option Addr} {ls : List Int} (h : Own3 w B a0 c0 a1 c1 a2 c2 z) (k : Below w.heap.size w w') (r : Row w' B' 3 a c 1 intR ls) (hB : w.heap.size ≤ B') (hb : B ≤ w.heap.size) : Own3 w' B a0 c0 a1 c1 a c ⟨z.es, z.fl, ls⟩ :=
  ⟨h.e.below k, h.f.below k, r.low (Nat.le_trans hb hB), h.ef, fun g h1 h2 => by have := (r.blk h2).1; have := (h.e.blk h1).2; omega, fun g h1 h2 => by have := (r.blk h2).1; have := (h.f.blk h1).2; omega⟩
theorem Own3.newEF {B1 B2 c c' : Nat} {a a' : Option Addr} {es : List Rq} {fs : List Int} (h : Own3 w B a0 c0 a1 c1 a2 c2 z) (k : Below w.heap.size w w') (r : Row w' B1 92 a c 5 Rq.cs es) (q : Row w' B2 3 a' c' 1 intR fs) (h1 : w.heap.size ≤ B1) (h2 : w.heap.size ≤ B2) (hb : B ≤ w.heap.size)
    (hap : ∀ g, rowBlk a c = some g → rowBlk a' c' ≠ some g) : Own3 w' B a c a' c' a2 c2 ⟨es, fs, z.la⟩ :=
  ⟨r.low (Nat.le_trans hb h1), q.low (Nat.le_trans hb h2), h.l.below k, hap, fun g e1 e2 => by have := (r.blk e1).1; have := (h.l.blk e2).2; omega, fun g e1 e2 => by have := (q.blk e1).1; have := (h.l.blk e2).2; omega⟩
end
/-- A store into a block of another type. -/
theorem Row.setType {α : Type} {w : World} {B e cap k G : Nat} {a : Option Addr} {R : α → List Value} {zs : List α} {cs : Array Value} {T : TypeId} {fr : Nat × Nat} (h : Row w B e a cap k R zs) (hG : w.heap[G]? = some (.cells cs T fr)) (hT : T ≠ e) (i : Nat) (v : Value) : Row (w.setCell ⟨G, i, none⟩ v) B e a cap k R zs :=
  h.setNe (fun g hg q => by
    unfold rowBlk at hg
    split at hg
    · cases hg
    · obtain ⟨g', cur, rfl, -, h3, -⟩ := h.own (by omega)
      simp at hg
      subst hg
      have q' : g' = G := q
      subst q'
      rw [h3] at hG
      injection hG with hG
      injection hG with h1 h2
      exact hT h2.symm) v
section
variable {w w' : World} {B : Nat} {a0 a1 a2 : Option Addr} {c0 c1 c2 : Nat} {z : Gm}
theorem Own3.setType {G : Nat} {cs : Array Value} {T : TypeId} {fr : Nat × Nat} (h : Own3 w B a0 c0 a1 c1 a2 c2 z) (hG : w.heap[G]? = some (.cells cs T fr)) (hT : T ≠ 92) (hI : T ≠ 3) (i : Nat) (v : Value) : Own3 (w.setCell ⟨G, i, none⟩ v) B a0 c0 a1 c1 a2 c2 z :=
  ⟨h.e.setType hG hT i v, h.f.setType hG hI i v, h.l.setType hG hI i v, h.ef, h.el, h.fl⟩
theorem Own3.drew (h : Own3 w B a0 c0 a1 c1 a2 c2 z) : Own3 w.drew B a0 c0 a1 c1 a2 c2 z := ⟨h.e.drew, h.f.drew, h.l.drew, h.ef, h.el, h.fl⟩
/-- A whole game stored into a block. -/
theorem Own3.set3 {G : Nat} {cs : Array Value} (h : Own3 w B a0 c0 a1 c1 a2 c2 z) (hG : w.heap[G]? = some (.cells cs 46 (0, 0))) (x y u : Value) : Own3 (((w.setCell ⟨G, 0, none⟩ x).setCell ⟨G, 1, none⟩ y).setCell ⟨G, 2, none⟩ u) B a0 c0 a1 c1 a2 c2 z :=
  ((h.setType hG (by decide) (by decide) 0 x).setType (block_setCell hG x) (by decide) (by decide) 1 y).setType (block_setCell (block_setCell hG x) y) (by decide) (by decide) 2 u
theorem block_set3 {G : Nat} {p q r : Value} {T : TypeId} (hG : w.heap[G]? = some (.cells #[p, q, r] T (0, 0))) (x y u : Value) : (((w.setCell ⟨G, 0, none⟩ x).setCell ⟨G, 1, none⟩ y).setCell ⟨G, 2, none⟩ u).heap[G]? = some (.cells #[x, y, u] T (0, 0)) := by
  have h := block_setCell (i := 2) (block_setCell (i := 1) (block_setCell (i := 0) hG x) y) u
  simpa only [List.setIfInBounds_toArray, List.set] using h
theorem block_kept3 {G b : Nat} (hb : b ≠ G) (x y u : Value) : (((w.setCell ⟨G, 0, none⟩ x).setCell ⟨G, 1, none⟩ y).setCell ⟨G, 2, none⟩ u).heap[b]? = w.heap[b]? :=
  (Below.heap_setCell _ ⟨G, 2, none⟩ _ _ hb).trans ((Below.heap_setCell _ ⟨G, 1, none⟩ _ _ hb).trans (Below.heap_setCell _ ⟨G, 0, none⟩ _ _ hb))
theorem below_set3 {A : World} {D G : Nat} (h : Below D A w) (hG : D ≤ G) (x y u : Value) : Below D A (((w.setCell ⟨G, 0, none⟩ x).setCell ⟨G, 1, none⟩ y).setCell ⟨G, 2, none⟩ u) :=
  Below.setCell (Below.setCell (Below.setCell h hG _) hG _) hG _
end
/-- A number's cell in an own row. -/
theorem Row.intAt {w : World} {B e cap : Nat} {a : Option Addr} {zs : List Int} (h : Row w B e a cap 1 intR zs) {i : Nat} (hi : i < zs.length) : ∃ g, a = some ⟨g, 0, none⟩ ∧ B ≤ g ∧ g < w.heap.size ∧ w.cell? ⟨g, i, none⟩ = some (.int .i64 zs[i]) ∧ w.frozen? ⟨g, i, none⟩ = false ∧ rowBlk a cap = some g := by
  obtain ⟨g, cur, rfl, h2, h3, h4, h5⟩ := h.own (Nat.lt_of_lt_of_le (Nat.lt_of_le_of_lt (Nat.zero_le _) hi) h.len)
  have hf := flat_get int_len zs i hi 0 (by decide)
  refine ⟨g, rfl, h2, lt_of_block h3, ?_, unfrozen_of_block h3 i, by have := h.len; simp [rowBlk]; omega⟩
  rw [cell_of_block h3, h5 i (by omega)]
  rw [Nat.mul_one, Nat.add_zero] at hf
  exact hf
theorem Row.entAt {w : World} {B e cap : Nat} {a : Option Addr} {zs : List Rq} (h : Row w B e a cap 5 Rq.cs zs) {i : Nat} (hi : i < zs.length) : ∃ g, a = some ⟨g, 0, none⟩ ∧ B ≤ g ∧ g < w.heap.size ∧ w.cell? ⟨g, i * 5, none⟩ = some (.int .i64 zs[i].c) ∧ w.cell? ⟨g, i * 5 + 1, none⟩ = some (.int .i64 zs[i].n) ∧
    w.cell? ⟨g, i * 5 + 2, none⟩ = some (.int .i64 zs[i].o) ∧ w.cell? ⟨g, i * 5 + 3, none⟩ = some (.int .i64 zs[i].x) ∧ w.cell? ⟨g, i * 5 + 4, none⟩ = some (.int .i64 zs[i].y) ∧ (∀ j, w.frozen? ⟨g, j, none⟩ = false) ∧ rowBlk a cap = some g := by
  obtain ⟨g, cur, rfl, h2, h3, h4, h5⟩ := h.own (Nat.lt_of_lt_of_le (Nat.lt_of_le_of_lt (Nat.zero_le _) hi) h.len)
  have hf := fun j (hj : j < 5) => (h5 (i * 5 + j) (by omega)).trans (flat_get five_len zs i hi j hj)
  exact ⟨g, rfl, h2, lt_of_block h3, (cell_of_block h3 _).trans (hf 0 (by decide)), (cell_of_block h3 _).trans (hf 1 (by decide)), (cell_of_block h3 _).trans (hf 2 (by decide)), (cell_of_block h3 _).trans (hf 3 (by decide)), (cell_of_block h3 _).trans (hf 4 (by decide)), unfrozen_of_block h3, by have := h.len; simp [rowBlk]; omega⟩
/-- A whole figure stored into an own row. -/
def five5 (w : World) (g o : Nat) (z : Rq) : World := ((((w.setCell ⟨g, o, none⟩ (.int .i64 z.c)).setCell ⟨g, o + 1, none⟩ (.int .i64 z.n)).setCell ⟨g, o + 2, none⟩ (.int .i64 z.o)).setCell ⟨g, o + 3, none⟩ (.int .i64 z.x)).setCell ⟨g, o + 4, none⟩ (.int .i64 z.y)
theorem Row.setFive {w : World} {B e cap g : Nat} {zs : List Rq} (h : Row w B e (some ⟨g, 0, none⟩) cap 5 Rq.cs zs) {k : Nat} (hk : k < zs.length) (z : Rq) : Row (five5 w g (k * 5) z) B e (some ⟨g, 0, none⟩) cap 5 Rq.cs (zs.set k z) := by
  have T1 := h.setOne five_len hk (j := 0) (by decide) (⟨z.c, zs[k].n, zs[k].o, zs[k].x, zs[k].y⟩ : Rq) _ rfl (fun j' h1 h2 => by
    have : j' = 1 ∨ j' = 2 ∨ j' = 3 ∨ j' = 4 := by omega
    rcases this with rfl | rfl | rfl | rfl <;> rfl) rfl
  have T2 := T1.setOne five_len (i := k) (by simpa using hk) (j := 1) (by decide) (⟨z.c, z.n, zs[k].o, zs[k].x, zs[k].y⟩ : Rq) _ rfl (fun j' h1 h2 => by
    rw [List.getElem_set_self]
    have : j' = 0 ∨ j' = 2 ∨ j' = 3 ∨ j' = 4 := by omega
    rcases this with rfl | rfl | rfl | rfl <;> rfl) rfl
  have T3 := T2.setOne five_len (i := k) (by simpa using hk) (j := 2) (by decide) (⟨z.c, z.n, z.o, zs[k].x, zs[k].y⟩ : Rq) _ rfl (fun j' h1 h2 => by
    rw [List.getElem_set_self]
    have : j' = 0 ∨ j' = 1 ∨ j' = 3 ∨ j' = 4 := by omega
    rcases this with rfl | rfl | rfl | rfl <;> rfl) rfl
  have T4 := T3.setOne five_len (i := k) (by simpa using hk) (j := 3) (by decide) (⟨z.c, z.n, z.o, z.x, zs[k].y⟩ : Rq) _ rfl (fun j' h1 h2 => by
    rw [List.getElem_set_self]
    have : j' = 0 ∨ j' = 1 ∨ j' = 2 ∨ j' = 4 := by omega
    rcases this with rfl | rfl | rfl | rfl <;> rfl) rfl
  have T5 := T4.setOne five_len (i := k) (by simpa using hk) (j := 4) (by decide) z _ rfl (fun j' h1 h2 => by
    rw [List.getElem_set_self]
    have : j' = 0 ∨ j' = 1 ∨ j' = 2 ∨ j' = 3 := by omega
    rcases this with rfl | rfl | rfl | rfl <;> rfl) rfl
  simp only [List.set_set] at T5
  exact T5
theorem block_kept5 {w : World} {g o b : Nat} (hb : b ≠ g) (z : Rq) : (five5 w g o z).heap[b]? = w.heap[b]? :=
  (Below.heap_setCell _ ⟨g, o + 4, none⟩ _ _ hb).trans ((Below.heap_setCell _ ⟨g, o + 3, none⟩ _ _ hb).trans ((Below.heap_setCell _ ⟨g, o + 2, none⟩ _ _ hb).trans ((Below.heap_setCell _ ⟨g, o + 1, none⟩ _ _ hb).trans (Below.heap_setCell _ ⟨g, o, none⟩ _ _ hb))))
theorem below_set5 {A w : World} {D g : Nat} (h : Below D A w) (hg : D ≤ g) (o : Nat) (z : Rq) : Below D A (five5 w g o z) :=
  Below.setCell (Below.setCell (Below.setCell (Below.setCell (Below.setCell h hg _) hg _) hg _) hg _) hg _
/-- A number stored into an own row. -/
theorem Row.setInt {w : World} {B e cap g : Nat} {zs : List Int} (h : Row w B e (some ⟨g, 0, none⟩) cap 1 intR zs) {i : Nat} (hi : i < zs.length) (x : Int) : Row (w.setCell ⟨g, i, none⟩ (.int .i64 x)) B e (some ⟨g, 0, none⟩) cap 1 intR (zs.set i x) := by
  have := h.setOne int_len (i := i) (j := 0) hi (by decide) x (.int .i64 x) rfl (fun j' h1 h2 => by omega) rfl
  simpa using this
end Go.Proofs.Ytofedboeggdkaaa

/-! Contracts of toGame, szGame, eqGame; condition: at most 2^20 elements. -/
namespace Go.Proofs.Ytofedboeggdkaaa
open Go.RowKit Go.Joins

/-- A game, anew: its blocks. -/
def GotGmB (z : Gm) (w : World) (e : Ending) (w' : World) : Prop :=
  ∃ g0 g1 g2, e = .returned (.agg #[.slice (some ⟨g0, 0, none⟩) z.es.length z.es.length, .slice (some ⟨g1, 0, none⟩) z.fl.length z.fl.length, .slice (some ⟨g2, 0, none⟩) z.la.length z.la.length]) ∧
    w'.heap[g0]? = some (.cells (flat Rq.cs z.es) 92 (0, 0)) ∧ w'.heap[g1]? = some (.cells (flat intR z.fl) 3 (0, 0)) ∧ w'.heap[g2]? = some (.cells (flat intR z.la) 3 (0, 0)) ∧ w.heap.size ≤ g0 ∧ g0 < g1 ∧ g1 < g2 ∧ Below w.heap.size w w'
/-- A game, anew. -/
def GotGm (z : Gm) (w : World) (e : Ending) (w' : World) : Prop :=
  ∃ g0 g1 g2, e = .returned (.agg #[.slice (some ⟨g0, 0, none⟩) z.es.length z.es.length, .slice (some ⟨g1, 0, none⟩) z.fl.length z.fl.length, .slice (some ⟨g2, 0, none⟩) z.la.length z.la.length]) ∧
    IsSl w' (.slice (some ⟨g0, 0, none⟩) z.es.length z.es.length) 5 Rq.cs z.es ∧ IsSl w' (.slice (some ⟨g1, 0, none⟩) z.fl.length z.fl.length) 1 intR z.fl ∧ IsSl w' (.slice (some ⟨g2, 0, none⟩) z.la.length z.la.length) 1 intR z.la ∧ Below w.heap.size w w'

set_option maxHeartbeats 2000000 in
theorem toGame_b (z : Gm) (a0 a1 a2 : Option Addr) (c0 c1 c2 : Nat) (w : World) (ha : IsSl w (.slice a0 z.es.length c0) 5 Rq.cs z.es) (hb : IsSl w (.slice a1 z.fl.length c1) 1 intR z.fl) (hd : IsSl w (.slice a2 z.la.length c2) 1 intR z.la)
    (hla : z.es.length ≤ 1048576) (hlb : z.fl.length ≤ 1048576) (hld : z.la.length ≤ 1048576) :
    Calls Try.prog 52 #[.agg #[.slice a0 z.es.length c0, .slice a1 z.fl.length c1, .slice a2 z.la.length c2]] w (GotGmB z w) := by
  obtain ⟨es, fl, la⟩ := z
  simp only at ha hb hd hla hlb hld ⊢
  generalize hn0 : es.length = n0 at *
  generalize hn1 : fl.length = n1 at *
  generalize hn2 : la.length = n2 at *
  go_enter Try.func52, Try.ntmps52
  go_wp2_with fail
  obtain ⟨W, hW, sW, aW, bW, cW, kW⟩ := blocks3 w (.cells #[.slice a0 n0 c0, .slice a1 n1 c1, .slice a2 n2 c2] 67) (.cells #[.slice none 0 0, .slice none 0 0, .slice none 0 0] 46) (.cells #[.slice none 0 0, .slice none 0 0, .slice none 0 0] 46)
  rw [← hW]
  clear hW
  have HB := Lib.hid hb
  have HD := Lib.hid hd
  refine (toEntS_c _ es _ (ha.below kW) (by omega)).mono ?_
  intro e w1 h1
  obtain ⟨rfl, h1, k1⟩ := h1
  rw [hn0]
  have K1 := below_next kW k1
  have s1 := k1.size
  have aW1 := carryB k1 (by omega) aW
  have bW1 := carryB k1 (by omega) bW
  have cW1 := carryB k1 (by omega) cW
  rw [sW] at h1 ⊢
  have hcA := cell_of_block aW1
  have hcC := cell_of_block cW1
  have hfC := unfrozen_of_block cW1
  have lW := lt_of_block h1
  clear aW bW cW ha hb hd kW k1
  go_wp2_with fail
  obtain ⟨X, hX, sX, cX, oX, kX⟩ := stored1 w1 (w.heap.size + 2) 0 (.slice (some ⟨w.heap.size + 3, 0, none⟩) n0 n0) cW1
  rw [← hX]
  clear hX
  have KX := K1.trans (kX.mono (by omega))
  have aX := (oX _ (by omega)).trans aW1
  have bX := (oX _ (by omega)).trans bW1
  have gX := (oX _ (by omega)).trans h1
  refine (toIntS_c _ fl _ (HB.out.below KX) (by omega)).mono ?_
  intro e w2 h2
  obtain ⟨rfl, h2, k2⟩ := h2
  rw [hn1]
  have K2 := below_next KX k2
  have s2 := k2.size
  have aX2 := carryB k2 (by omega) aX
  have bX2 := carryB k2 (by omega) bX
  have cX2 := carryB k2 (by omega) cX
  have gX2 := carryB k2 (by omega) gX
  rw [sX] at h2 ⊢
  clear aX bX cX gX k2 KX oX kX hcA hcC hfC aW1 bW1 cW1 h1 K1
  have hcA := cell_of_block aX2
  have hcC := cell_of_block cX2
  have hfC := unfrozen_of_block cX2
  have l2 := lt_of_block h2
  go_wp2_with fail
  obtain ⟨Y, hY, sY, cY, oY, kY⟩ := stored1 w2 (w.heap.size + 2) 1 (.slice (some ⟨w1.heap.size, 0, none⟩) n1 n1) cX2
  rw [← hY]
  clear hY
  have KY := K2.trans (kY.mono (by omega))
  have aY := (oY _ (by omega)).trans aX2
  have bY := (oY _ (by omega)).trans bX2
  have gY := (oY _ (by omega)).trans gX2
  have fY := (oY _ (by omega)).trans h2
  refine (toIntS_c _ la _ (HD.out.below KY) (by omega)).mono ?_
  intro e w3 h3
  obtain ⟨rfl, h3, k3⟩ := h3
  rw [hn2]
  have K3 := below_next KY k3
  have s3 := k3.size
  have bY3 := carryB k3 (by omega) bY
  have cY3 := carryB k3 (by omega) cY
  have gY3 := carryB k3 (by omega) gY
  have fY3 := carryB k3 (by omega) fY
  rw [sY] at h3 ⊢
  clear aY bY cY gY fY k3 KY oY kY hcA hcC hfC aX2 bX2 cX2 gX2 h2 K2
  have hcB := cell_of_block bY3
  have hfB := unfrozen_of_block bY3
  have hcC := cell_of_block cY3
  have hfC := unfrozen_of_block cY3
  have l3 := lt_of_block h3
  go_wp2_with fail
  have HK := Lib.hid K3
  refine bodyPost_ret (v := .agg #[.slice (some ⟨w.heap.size + 3, 0, none⟩) n0 n0, .slice (some ⟨w1.heap.size, 0, none⟩) n1 n1, .slice (some ⟨w2.heap.size, 0, none⟩) n2 n2]) (by simp [results, Try.results52, go_sem, hcB]) rfl ?_
  refine ⟨w.heap.size + 3, w1.heap.size, w2.heap.size, ?_, ?_, ?_, ?_, by omega, by omega, by omega, ?_⟩
  · rw [hn0, hn1, hn2]
  · repeat rw [Below.heap_setCell _ _ _ _ (by simp; try omega)]
    exact gY3
  · repeat rw [Below.heap_setCell _ _ _ _ (by simp; try omega)]
    exact fY3
  · repeat rw [Below.heap_setCell _ _ _ _ (by simp; try omega)]
    exact h3
  · replace K3 := HK.out
    exact (by repeat' (first | with_reducible exact Below.refl _ _ | with_reducible assumption | with_reducible refine Below.alloc ?_ ?_ _ | with_reducible refine Below.drew ?_ | with_reducible refine Below.setCell ?_ ?_ _ | omega | (simp; omega) | (simp; done)))
theorem toGame_c (z : Gm) (a0 a1 a2 : Option Addr) (c0 c1 c2 : Nat) (w : World) (ha : IsSl w (.slice a0 z.es.length c0) 5 Rq.cs z.es) (hb : IsSl w (.slice a1 z.fl.length c1) 1 intR z.fl) (hd : IsSl w (.slice a2 z.la.length c2) 1 intR z.la)
    (hla : z.es.length ≤ 1048576) (hlb : z.fl.length ≤ 1048576) (hld : z.la.length ≤ 1048576) :
    Calls Try.prog 52 #[.agg #[.slice a0 z.es.length c0, .slice a1 z.fl.length c1, .slice a2 z.la.length c2]] w (GotGm z w) :=
  (toGame_b z a0 a1 a2 c0 c1 c2 w ha hb hd hla hlb hld).mono fun _ _ ⟨g0, g1, g2, he, h0, h1, h2, _, _, _, k⟩ => ⟨g0, g1, g2, he, sl_of_block five_len h0 rfl hla, sl_of_block int_len h1 rfl hlb, sl_of_block int_len h2 rfl hld, k⟩

set_option maxHeartbeats 2000000 in
theorem szGame_c (a0 a1 a2 : Option Addr) (n0 n1 n2 c0 c1 c2 : Nat) (w : World) (h0 : n0 ≤ c0) (m0 : c0 ≤ maxLen) (h1 : n1 ≤ c1) (m1 : c1 ≤ maxLen) (h2 : n2 ≤ c2) (m2 : c2 ≤ maxLen) :
    Calls Try.prog 51 #[.agg #[.slice a0 n0 c0, .slice a1 n1 c1, .slice a2 n2 c2], .int .i64 1048576] w fun e w' =>
      e = .returned (.int .i64 (if n0 + n1 + n2 ≤ 1048576 then 1048576 - n0 - n1 - n2 else -1)) ∧ Below w.heap.size w w' := by
  have M0 := Lib.hid m0
  have M1 := Lib.hid m1
  have M2 := Lib.hid m2
  clear m0 m1 m2
  by_cases hA : n0 ≤ 1048576
  · have e0 : leftOf 1048576 n0 = 1048576 - n0 := by unfold leftOf; rw [if_neg (by omega)]
    by_cases hB : n0 + n1 ≤ 1048576
    · have e1 : leftOf (1048576 - n0) n1 = 1048576 - n0 - n1 := by unfold leftOf; rw [if_neg (by omega)]
      by_cases hC : n0 + n1 + n2 ≤ 1048576
      · have e2 : leftOf (1048576 - n0 - n1) n2 = 1048576 - n0 - n1 - n2 := by unfold leftOf; rw [if_neg (by omega)]
        go_enter Try.func51, Try.ntmps51
        go_wp2_with fail
        refine (szEntS_c _ _ _ _ _ h0 M0.out (by omega) (by omega)).mono ?_
        rintro e w1 ⟨rfl, rfl⟩
        rw [e0]
        go_wp2_with fail
        refine (szIntS_c _ _ _ _ _ h1 M1.out (by omega) (by omega)).mono ?_
        rintro e w1 ⟨rfl, rfl⟩
        rw [e1]
        go_wp2_with fail
        refine (szIntS_c _ _ _ _ _ h2 M2.out (by omega) (by omega)).mono ?_
        rintro e w1 ⟨rfl, rfl⟩
        rw [e2]
        go_wp2_with fail
        go_ret
        exact ⟨rfl, (by repeat' (first | with_reducible exact Below.refl _ _ | with_reducible assumption | with_reducible refine Below.alloc ?_ ?_ _ | with_reducible refine Below.drew ?_ | with_reducible refine Below.setCell ?_ ?_ _ | omega | (simp; omega) | (simp; done)))⟩
      · have e2 : leftOf (1048576 - n0 - n1) n2 = -1 := by unfold leftOf; rw [if_pos (by omega)]
        go_enter Try.func51, Try.ntmps51
        go_wp2_with fail
        refine (szEntS_c _ _ _ _ _ h0 M0.out (by omega) (by omega)).mono ?_
        rintro e w1 ⟨rfl, rfl⟩
        rw [e0]
        go_wp2_with fail
        refine (szIntS_c _ _ _ _ _ h1 M1.out (by omega) (by omega)).mono ?_
        rintro e w1 ⟨rfl, rfl⟩
        rw [e1]
        go_wp2_with fail
        refine (szIntS_c _ _ _ _ _ h2 M2.out (by omega) (by omega)).mono ?_
        rintro e w1 ⟨rfl, rfl⟩
        rw [e2]
        go_wp2_with fail
        go_ret
        exact ⟨rfl, (by repeat' (first | with_reducible exact Below.refl _ _ | with_reducible assumption | with_reducible refine Below.alloc ?_ ?_ _ | with_reducible refine Below.drew ?_ | with_reducible refine Below.setCell ?_ ?_ _ | omega | (simp; omega) | (simp; done)))⟩
    · have e1 : leftOf (1048576 - n0) n1 = -1 := by unfold leftOf; rw [if_pos (by omega)]
      have hC : ¬ n0 + n1 + n2 ≤ 1048576 := by omega
      go_enter Try.func51, Try.ntmps51
      go_wp2_with fail
      refine (szEntS_c _ _ _ _ _ h0 M0.out (by omega) (by omega)).mono ?_
      rintro e w1 ⟨rfl, rfl⟩
      rw [e0]
      go_wp2_with fail
      refine (szIntS_c _ _ _ _ _ h1 M1.out (by omega) (by omega)).mono ?_
      rintro e w1 ⟨rfl, rfl⟩
      rw [e1]
      go_wp2_with fail
      go_ret
      exact ⟨rfl, (by repeat' (first | with_reducible exact Below.refl _ _ | with_reducible assumption | with_reducible refine Below.alloc ?_ ?_ _ | with_reducible refine Below.drew ?_ | with_reducible refine Below.setCell ?_ ?_ _ | omega | (simp; omega) | (simp; done)))⟩
  · have e0 : leftOf 1048576 n0 = -1 := by unfold leftOf; rw [if_pos (by omega)]
    have hC : ¬ n0 + n1 + n2 ≤ 1048576 := by omega
    go_enter Try.func51, Try.ntmps51
    go_wp2_with fail
    refine (szEntS_c _ _ _ _ _ h0 M0.out (by omega) (by omega)).mono ?_
    rintro e w1 ⟨rfl, rfl⟩
    rw [e0]
    go_wp2_with fail
    go_ret
    exact ⟨rfl, (by repeat' (first | with_reducible exact Below.refl _ _ | with_reducible assumption | with_reducible refine Below.alloc ?_ ?_ _ | with_reducible refine Below.drew ?_ | with_reducible refine Below.setCell ?_ ?_ _ | omega | (simp; omega) | (simp; done)))⟩

set_option maxHeartbeats 1000000 in
theorem eqGame_c (z : Gm) (a0 a1 a2 b0 b1 b2 : Option Addr) (c0 c1 c2 d0 d1 d2 : Nat) (w : World) (ha0 : IsSl w (.slice a0 z.es.length c0) 5 Rq.cs z.es) (ha1 : IsSl w (.slice a1 z.fl.length c1) 1 intR z.fl) (ha2 : IsSl w (.slice a2 z.la.length c2) 1 intR z.la)
    (hb0 : IsSl w (.slice b0 z.es.length d0) 5 Rq.cs z.es) (hb1 : IsSl w (.slice b1 z.fl.length d1) 1 intR z.fl) (hb2 : IsSl w (.slice b2 z.la.length d2) 1 intR z.la) :
    Calls Try.prog 53 #[.agg #[.slice a0 z.es.length c0, .slice a1 z.fl.length c1, .slice a2 z.la.length c2], .agg #[.slice b0 z.es.length d0, .slice b1 z.fl.length d1, .slice b2 z.la.length d2]] w (Yes w) := by
  have A1 := Lib.hid ha1
  have B1 := Lib.hid hb1
  have A2 := Lib.hid ha2
  have B2 := Lib.hid hb2
  clear ha1 hb1 ha2 hb2
  go_enter Try.func53, Try.ntmps53
  go_wp2_with fail
  obtain ⟨W, hW, sW, aW, bW, kW⟩ := blocks2 w (.cells #[.slice a0 z.es.length c0, .slice a1 z.fl.length c1, .slice a2 z.la.length c2] 46) (.cells #[.slice b0 z.es.length d0, .slice b1 z.fl.length d1, .slice b2 z.la.length d2] 46)
  rw [← hW]
  clear hW
  refine (eqEntS_c _ _ z.es _ (ha0.below kW) (hb0.below kW)).mono ?_
  rintro e w1 ⟨rfl, k1⟩
  have s1 := k1.size
  have K1 := below_next kW k1
  have hcA := cell_of_block (carryB k1 (by omega) aW)
  have hcB := cell_of_block (carryB k1 (by omega) bW)
  go_wp2_with fail
  refine (eqIntS_c _ _ z.fl _ (A1.out.below K1) (B1.out.below K1)).mono ?_
  rintro e w2 ⟨rfl, k2⟩
  have s2 := k2.size
  have hcA2 := cell_of_block (carryB k2 (by omega) (carryB k1 (by omega) aW))
  have hcB2 := cell_of_block (carryB k2 (by omega) (carryB k1 (by omega) bW))
  have K2 := below_next K1 k2
  go_wp2_with fail
  refine (eqIntS_c _ _ z.la _ (A2.out.below K2) (B2.out.below K2)).mono ?_
  rintro e w3 ⟨rfl, k3⟩
  have K3 := below_next K2 k3
  go_wp2_with fail
  go_ret
  exact ⟨rfl, K3⟩
end Go.Proofs.Ytofedboeggdkaaa

/-! Contracts of GameNew and of its reference; no condition. -/
namespace Go.Proofs.Ytofedboeggdkaaa
open Go.RowKit Go.Joins

/-- The floor behind k coins. -/
def floorAt : Nat → List Int
  | 0 => List.replicate 16 0
  | k + 1 => (floorAt k).set (5 * k % 16) ((floorAt k).getD (5 * k % 16) 0 + 1)
theorem floorAt_len (k : Nat) : (floorAt k).length = 16 := by
  induction k with
  | zero => rfl
  | succ k ih => unfold floorAt; rw [List.length_set]; exact ih
theorem floorAt_bound (k j : Nat) : 0 ≤ (floorAt k).getD j 0 ∧ (floorAt k).getD j 0 ≤ k := by
  induction k generalizing j with
  | zero =>
    unfold floorAt
    rw [List.getD_eq_getElem?_getD, List.getElem?_replicate]
    split <;> simp
  | succ k ih =>
    have hb := ih (5 * k % 16)
    unfold floorAt
    by_cases hj : 5 * k % 16 = j
    · rw [← hj, List.getD_eq_getElem?_getD, List.getElem?_set_self (by rw [floorAt_len]; omega)]
      simp only [Option.getD_some]
      omega
    · rw [List.getD_eq_getElem?_getD, List.getElem?_set_ne hj, ← List.getD_eq_getElem?_getD]
      have := ih j
      omega

/-- A new game: its floor and its last asks in blocks of their own. -/
def NewGame (w : World) (e : Ending) (w' : World) : Prop :=
  ∃ f l, e = .returned (.agg #[.slice none 0 0, .slice (some ⟨f, 0, none⟩) 16 16, .slice (some ⟨l, 0, none⟩) 4 4]) ∧ w'.heap[f]? = some (.cells (flat intR (floorAt 20)) 3 (0, 0)) ∧ w'.heap[l]? = some (.cells (flat intR (List.replicate 4 0)) 3 (0, 0)) ∧
    f ≠ l ∧ w.heap.size ≤ f ∧ w.heap.size ≤ l ∧ Below w.heap.size w w'

def Laid3 (w : World) (g f l : Nat) (W : World) : Prop :=
  W.heap[w.heap.size]? = some (.cells #[.slice none 0 0, .slice none 0 0, .slice none 0 0] 46 (0, 0)) ∧ W.heap[g]? = some (.cells #[.slice none 0 0, .slice (some ⟨f, 0, none⟩) 16 16, .slice (some ⟨l, 0, none⟩) 4 4] 46 (0, 0)) ∧
    W.heap[f]? = some (.cells (flat intR ([0, 0, 0, 0, 0, 0, 0, 0, 0, 0, 0, 0, 0, 0, 0, 0])) 3 (0, 0)) ∧ W.heap[l]? = some (.cells (flat intR ([0, 0, 0, 0])) 3 (0, 0)) ∧ w.heap.size < g ∧ w.heap.size < f ∧ w.heap.size < l ∧ g ≠ f ∧ g ≠ l ∧ f ≠ l ∧ Below w.heap.size w W

theorem four (w : World) (A B C D : Obj) : ((((w.alloc A).alloc B).alloc C).alloc D).drew.heap[w.heap.size]? = some A ∧ ((((w.alloc A).alloc B).alloc C).alloc D).drew.heap[w.heap.size + 1]? = some B ∧
    ((((w.alloc A).alloc B).alloc C).alloc D).drew.heap[w.heap.size + 1 + 1]? = some C ∧ ((((w.alloc A).alloc B).alloc C).alloc D).drew.heap[w.heap.size + 1 + 1 + 1]? = some D ∧ Below w.heap.size w ((((w.alloc A).alloc B).alloc C).alloc D).drew := by
  obtain ⟨W, hW, sW, aW, bW, cW, dW, kW⟩ := blocks4 w A B C D
  rw [← hW]
  exact ⟨aW, bW, cW, dW, kW.drew⟩

set_option maxRecDepth 100000 in
set_option maxHeartbeats 2000000 in
theorem GameNew_c (w : World) : Calls Try.prog 40 #[] w (NewGame w) := by
  have hm16 : ∀ W : World, (Instr.makeSlice 44 (.int .i64 16) (.int .i64 16)).run Try.prog W = .ok (.slice (some ⟨W.heap.size, 0, none⟩) 16 16) (W.alloc (.cells (flat intR (List.replicate 16 0)) 3)) := fun W => make_int W 16 (by decide)
  have hm4 : ∀ W : World, (Instr.makeSlice 44 (.int .i64 4) (.int .i64 4)).run Try.prog W = .ok (.slice (some ⟨W.heap.size, 0, none⟩) 4 4) (W.alloc (.cells (flat intR (List.replicate 4 0)) 3)) := fun W => make_int W 4 (by decide)
  go_enter Try.func40, Try.ntmps40
  go_upto_region 1 with fail
  go_cut [1] (fun s1 wx => ∃ g f l, s1 = .pointer (some ⟨g, 0, none⟩) ∧ Laid3 w g f l wx)
  case first =>
    go_region
    all_goals
      go_wp2_with fail
      go_meet
      refine ⟨_, _, _, rfl, (four w _ _ _ _).1, (by first | with_reducible exact (four w _ _ _ _).2.1 | with_reducible exact (four w _ _ _ _).2.2.1 | with_reducible exact (four w _ _ _ _).2.2.2.1), (by first | with_reducible exact (four w _ _ _ _).2.1 | with_reducible exact (four w _ _ _ _).2.2.1 | with_reducible exact (four w _ _ _ _).2.2.2.1), (by first | with_reducible exact (four w _ _ _ _).2.1 | with_reducible exact (four w _ _ _ _).2.2.1 | with_reducible exact (four w _ _ _ _).2.2.2.1), by omega, by omega, by omega, by omega, by omega, by omega, (four w _ _ _ _).2.2.2.2⟩
  case rest =>
    obtain ⟨g, f, l, rfl, h0, hg, hf, hl, lg, lf, ll, n1, n2, n3, bel⟩ := hcut
    have HL := Lib.hid hl
    have H0 := Lib.hid h0
    clear hl h0 hm16 hm4
    go_wp2_with fail
    go_loopw [6] (fun i wr => ∃ k : Nat, k ≤ 20 ∧ i = .int .i64 k ∧ wr.heap[f]? = some (.cells (flat intR (floorAt k)) 3 (0, 0)) ∧ (∀ b, b < wc.heap.size → b ≠ f → wr.heap[b]? = wc.heap[b]?) ∧ wr.heap.size = wc.heap.size ∧ Below w.heap.size w wr) (fun i _ => 20 - (intOf i).toNat)
    case atStart => exact ⟨0, Nat.zero_le _, rfl, hf, fun _ _ _ => rfl, rfl, bel⟩
    case round =>
      obtain ⟨k, hk, rfl, hB, hob, hsz, hbel⟩ := hrel
      have lgc := lt_of_block hg
      have hgW := (hob g lgc n1).trans hg
      by_cases hlt : k < 20
      · have hcG := cell_of_block hgW
        have hfF := unfrozen_of_block hB
        have hi : 5 * k % 16 < 16 := by omega
        have hcF : wr.cell? ⟨f, 5 * k % 16, none⟩ = some (.int .i64 ((floorAt k).getD (5 * k % 16) 0)) := by
          rw [cell_of_block hB, flat_int, List.getElem?_toArray, List.getElem?_map, List.getD_eq_getElem?_getD, List.getElem?_eq_getElem (by rw [floorAt_len]; exact hi)]
          rfl
        have hx := floorAt_bound k (5 * k % 16)
        have hB' := block_setCell (i := 5 * k % 16) hB (.int .i64 ((floorAt k).getD (5 * k % 16) 0 + 1))
        rw [flat_int_set] at hB'
        have HN := Lib.hid (show (floorAt k).set (5 * k % 16) ((floorAt k).getD (5 * k % 16) 0 + 1) = floorAt (k + 1) from rfl)
        have hw1 : IntKind.i64.wrap (5 * (k : Int)) = 5 * (k : Int) := IntWalk.i64_in _ ⟨by omega, by omega⟩
        have hw2 : (5 * (k : Int)).tmod 16 = ((5 * k % 16 : Nat) : Int) := by rw [Int.tmod_eq_emod_of_nonneg (by omega)]; rfl
        generalize (floorAt k).getD (5 * k % 16) 0 = x at *
        generalize 5 * k % 16 = i at *
        have hw3 : IntKind.i64.wrap (x + 1) = x + 1 := IntWalk.i64_in _ ⟨by omega, by omega⟩
        have hw4 : IntKind.i64.wrap (i : Int) = (i : Int) := IntWalk.i64_in _ ⟨by omega, by omega⟩
        have hi0 : (0 : Int) ≤ (i : Int) := by omega
        have hi1 : (i : Int) < 16 := by omega
        have HB' := Lib.hid hB'
        have HO := Lib.hid hob
        clear hB' hB hob hgW
        go_wp2_with fail
        go_still_tail 12, (by kernel_rfl)
        change wpList _ _ _ _ _ wr.drew
        go_wp2_with fail
        go_roundw
        case rel =>
          refine ⟨k + 1, by omega, ?_, ?_, ?_, ?_, ?_⟩
          · go_num
          · rw [← HN.out]; exact HB'.out
          · intro b hb hbf
            exact (Below.heap_setCell wr ⟨f, i, none⟩ _ b hbf).trans (HO.out b hb hbf)
          · rw [← hsz]; simp
          · exact Below.setCell hbel.drew (Nat.le_of_lt lf) _
        case measure => simp [intOf]; omega
      · have hkk : k = 20 := by omega
        subst hkk
        have h0W := (hob _ (lt_of_block H0.out) (by omega)).trans H0.out
        have hlW := (hob _ (lt_of_block HL.out) (by omega)).trans HL.out
        have hcG := cell_of_block hgW
        have hcR := cell_of_block h0W
        have hfR := unfrozen_of_block h0W
        have HF := Lib.hid hB
        have HL' := Lib.hid hlW
        clear hB hob hlt
        go_wp2_with fail
        refine bodyPost_ret (v := .agg #[.slice none 0 0, .slice (some ⟨f, 0, none⟩) 16 16, .slice (some ⟨l, 0, none⟩) 4 4]) (by simp [results, Try.results40, go_sem, hcR]) rfl ?_
        refine ⟨f, l, rfl, ?_, ?_, n3, by omega, by omega, (by repeat' (first | with_reducible exact Below.refl _ _ | with_reducible assumption | with_reducible refine Below.alloc ?_ ?_ _ | with_reducible refine Below.drew ?_ | with_reducible refine Below.setCell ?_ ?_ _ | omega | (simp; omega) | (simp; done)))⟩
        · repeat rw [Below.heap_setCell _ _ _ _ (by simp; omega)]
          exact HF.out
        · repeat rw [Below.heap_setCell _ _ _ _ (by simp; omega)]
          exact HL'.out
set_option maxRecDepth 100000 in
set_option maxHeartbeats 2000000 in
theorem l2New_c (w : World) : Calls Try.prog 93 #[] w (NewGame w) := by
  have hm16 : ∀ W : World, (Instr.makeSlice 44 (.int .i64 16) (.int .i64 16)).run Try.prog W = .ok (.slice (some ⟨W.heap.size, 0, none⟩) 16 16) (W.alloc (.cells (flat intR (List.replicate 16 0)) 3)) := fun W => make_int W 16 (by decide)
  have hm4 : ∀ W : World, (Instr.makeSlice 44 (.int .i64 4) (.int .i64 4)).run Try.prog W = .ok (.slice (some ⟨W.heap.size, 0, none⟩) 4 4) (W.alloc (.cells (flat intR (List.replicate 4 0)) 3)) := fun W => make_int W 4 (by decide)
  go_enter Try.func93, Try.ntmps93
  go_upto_region 1 with fail
  go_cut [1] (fun s1 wx => ∃ g f l, s1 = .pointer (some ⟨g, 0, none⟩) ∧ Laid3 w g f l wx)
  case first =>
    go_region
    all_goals
      go_wp2_with fail
      go_meet
      refine ⟨_, _, _, rfl, (four w _ _ _ _).1, (by first | with_reducible exact (four w _ _ _ _).2.1 | with_reducible exact (four w _ _ _ _).2.2.1 | with_reducible exact (four w _ _ _ _).2.2.2.1), (by first | with_reducible exact (four w _ _ _ _).2.1 | with_reducible exact (four w _ _ _ _).2.2.1 | with_reducible exact (four w _ _ _ _).2.2.2.1), (by first | with_reducible exact (four w _ _ _ _).2.1 | with_reducible exact (four w _ _ _ _).2.2.1 | with_reducible exact (four w _ _ _ _).2.2.2.1), by omega, by omega, by omega, by omega, by omega, by omega, (four w _ _ _ _).2.2.2.2⟩
  case rest =>
    obtain ⟨g, f, l, rfl, h0, hg, hf, hl, lg, lf, ll, n1, n2, n3, bel⟩ := hcut
    have HL := Lib.hid hl
    have H0 := Lib.hid h0
    clear hl h0 hm16 hm4
    go_wp2_with fail
    go_loopw [2] (fun i wr => ∃ k : Nat, k ≤ 20 ∧ i = .int .i64 k ∧ wr.heap[f]? = some (.cells (flat intR (floorAt k)) 3 (0, 0)) ∧ (∀ b, b < wc.heap.size → b ≠ f → wr.heap[b]? = wc.heap[b]?) ∧ wr.heap.size = wc.heap.size ∧ Below w.heap.size w wr) (fun i _ => 20 - (intOf i).toNat)
    case atStart => exact ⟨0, Nat.zero_le _, rfl, hf, fun _ _ _ => rfl, rfl, bel⟩
    case round =>
      obtain ⟨k, hk, rfl, hB, hob, hsz, hbel⟩ := hrel
      have lgc := lt_of_block hg
      have hgW := (hob g lgc n1).trans hg
      by_cases hlt : k < 20
      · have hcG := cell_of_block hgW
        have hfF := unfrozen_of_block hB
        have hi : 5 * k % 16 < 16 := by omega
        have hcF : wr.cell? ⟨f, 5 * k % 16, none⟩ = some (.int .i64 ((floorAt k).getD (5 * k % 16) 0)) := by
          rw [cell_of_block hB, flat_int, List.getElem?_toArray, List.getElem?_map, List.getD_eq_getElem?_getD, List.getElem?_eq_getElem (by rw [floorAt_len]; exact hi)]
          rfl
        have hx := floorAt_bound k (5 * k % 16)
        have hB' := block_setCell (i := 5 * k % 16) hB (.int .i64 ((floorAt k).getD (5 * k % 16) 0 + 1))
        rw [flat_int_set] at hB'
        have HN := Lib.hid (show (floorAt k).set (5 * k % 16) ((floorAt k).getD (5 * k % 16) 0 + 1) = floorAt (k + 1) from rfl)
        have hw1 : IntKind.i64.wrap ((k : Int) * 5) = (k : Int) * 5 := IntWalk.i64_in _ ⟨by omega, by omega⟩
        have hw2 : ((k : Int) * 5).tmod 16 = ((5 * k % 16 : Nat) : Int) := by rw [Int.tmod_eq_emod_of_nonneg (by omega), Int.mul_comm]; rfl
        generalize (floorAt k).getD (5 * k % 16) 0 = x at *
        generalize 5 * k % 16 = i at *
        have hw3 : IntKind.i64.wrap (x + 1) = x + 1 := IntWalk.i64_in _ ⟨by omega, by omega⟩
        have hw4 : IntKind.i64.wrap (i : Int) = (i : Int) := IntWalk.i64_in _ ⟨by omega, by omega⟩
        have hi0 : (0 : Int) ≤ (i : Int) := by omega
        have hi1 : (i : Int) < 16 := by omega
        have HB' := Lib.hid hB'
        have HO := Lib.hid hob
        clear hB' hB hob hgW
        go_wp2_with fail
        go_still_tail 10, (by kernel_rfl)
        change wpList _ _ _ _ _ wr.drew
        go_wp2_with fail
        go_roundw
        case rel =>
          refine ⟨k + 1, by omega, ?_, ?_, ?_, ?_, ?_⟩
          · go_num
          · rw [← HN.out]; exact HB'.out
          · intro b hb hbf
            exact (Below.heap_setCell wr ⟨f, i, none⟩ _ b hbf).trans (HO.out b hb hbf)
          · rw [← hsz]; simp
          · exact Below.setCell hbel.drew (Nat.le_of_lt lf) _
        case measure => simp [intOf]; omega
      · have hkk : k = 20 := by omega
        subst hkk
        have h0W := (hob _ (lt_of_block H0.out) (by omega)).trans H0.out
        have hlW := (hob _ (lt_of_block HL.out) (by omega)).trans HL.out
        have hcG := cell_of_block hgW
        have hcR := cell_of_block h0W
        have hfR := unfrozen_of_block h0W
        have HF := Lib.hid hB
        have HL' := Lib.hid hlW
        clear hB hob hlt
        go_wp2_with fail
        refine bodyPost_ret (v := .agg #[.slice none 0 0, .slice (some ⟨f, 0, none⟩) 16 16, .slice (some ⟨l, 0, none⟩) 4 4]) (by simp [results, Try.results93, go_sem, hcR]) rfl ?_
        refine ⟨f, l, rfl, ?_, ?_, n3, by omega, by omega, (by repeat' (first | with_reducible exact Below.refl _ _ | with_reducible assumption | with_reducible refine Below.alloc ?_ ?_ _ | with_reducible refine Below.drew ?_ | with_reducible refine Below.setCell ?_ ?_ _ | omega | (simp; omega) | (simp; done)))⟩
        · repeat rw [Below.heap_setCell _ _ _ _ (by simp; omega)]
          exact HF.out
        · repeat rw [Below.heap_setCell _ _ _ _ (by simp; omega)]
          exact HL'.out

set_option maxHeartbeats 1000000 in
theorem sGameNew_c (w : World) : Calls Try.prog 41 #[] w (NewGame w) := by
  go_enter Try.func41, Try.ntmps41
  go_wp2_with fail
  obtain ⟨W, hW, sW, aW, kW⟩ := blocks1 w (.cells #[.slice none 0 0, .slice none 0 0, .slice none 0 0] 46)
  rw [← hW]
  clear hW
  refine (l2New_c _).mono ?_
  rintro e w1 ⟨f, l, rfl, hf, hl, n3, lf, ll, k1⟩
  have HF := Lib.hid hf
  have HL := Lib.hid hl
  have a1 := carryB k1 (by omega) aW
  have K1 := below_next kW k1
  have hcR := cell_of_block a1
  have hfR := unfrozen_of_block a1
  have lR := lt_of_block a1
  clear hf hl k1 aW
  go_wp2_with fail
  refine bodyPost_ret (v := .agg #[.slice none 0 0, .slice (some ⟨f, 0, none⟩) 16 16, .slice (some ⟨l, 0, none⟩) 4 4]) (by simp [results, Try.results41, go_sem, hcR]) rfl ?_
  refine ⟨f, l, rfl, ?_, ?_, n3, by omega, by omega, (by repeat' (first | with_reducible exact Below.refl _ _ | with_reducible assumption | with_reducible refine Below.alloc ?_ ?_ _ | with_reducible refine Below.drew ?_ | with_reducible refine Below.setCell ?_ ?_ _ | omega | (simp; omega) | (simp; done)))⟩
  · repeat rw [Below.heap_setCell _ _ _ _ (by simp; omega)]
    exact HF.out
  · repeat rw [Below.heap_setCell _ _ _ _ (by simp; omega)]
    exact HL.out
end Go.Proofs.Ytofedboeggdkaaa

/-! The walk of FnExactGameOk; no condition. -/
namespace Go.Proofs.Ytofedboeggdkaaa
open Go.RowKit Go.Joins

end Go.Proofs.Ytofedboeggdkaaa
