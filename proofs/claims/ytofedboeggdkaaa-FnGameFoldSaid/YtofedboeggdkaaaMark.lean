/- Contracts of markIntS, heldIntS, and of markEntS, heldEntS at the nil slice; condition: small numbers. -/
import Derived.Test.YtofedboeggdkaaaAt
import Derived.LoopTactic
namespace Go.Proofs.Ytofedboeggdkaaa
open Go.RowKit Go.Joins

/-- Only cells of block f have turned. -/
structure OnlyBlock (f : Nat) (w w' : World) : Prop where
  others : ∀ b, b ≠ f → w'.heap[b]? = w.heap[b]?
  size : w'.heap.size = w.heap.size
  frozen : ∀ j, w'.frozen? ⟨f, j, none⟩ = w.frozen? ⟨f, j, none⟩
  below : Below f w w'
theorem OnlyBlock.refl (f : Nat) (w : World) : OnlyBlock f w w := ⟨fun _ _ => rfl, rfl, fun _ => rfl, Below.refl _ _⟩
theorem OnlyBlock.set {f : Nat} {w w' : World} (h : OnlyBlock f w w') (j : Nat) (v : Value) : OnlyBlock f w (w'.setCell ⟨f, j, none⟩ v) :=
  ⟨fun b hb => (Below.heap_setCell w' _ v b hb).trans (h.others b hb), by simp [h.size], fun i => by rw [World.frozen?_setCell]; exact h.frozen i, Below.setCell h.below (Nat.le_refl _) v⟩

def Marked (f n : Nat) (m : Int) (w : World) (e : Ending) (w' : World) : Prop :=
  e = .returned (.int .i64 (m + n)) ∧ (∀ j, j < n → w'.cell? ⟨f, j, none⟩ = some (.int .i64 (m + j))) ∧ OnlyBlock f w w'

set_option maxHeartbeats 1000000 in
theorem markIntS_c (f n cap : Nat) (m : Int) (w : World) (hlc : n ≤ cap) (hm0 : 0 ≤ m) (hm1 : m ≤ 1099511627776) (hn : n ≤ 1099511627776) (hc : ∀ j, j < n → ∃ v, w.cell? ⟨f, j, none⟩ = some v) (hf : ∀ j, j < n → w.frozen? ⟨f, j, none⟩ = false) :
    Calls Try.prog 49 #[.slice (some ⟨f, 0, none⟩) n cap, .int .i64 m] w (Marked f n m w) := by
  have HC := Lib.hid hc
  have HF := Lib.hid hf
  clear hc hf
  go_enter Try.func49, Try.ntmps49
  go_wp2_with fail
  go_loopw [1, 5] (fun s i wr => ∃ k : Nat, k ≤ n ∧ i = .int .i64 k ∧ s = .int .i64 (m + k) ∧ (∀ j, j < k → wr.cell? ⟨f, j, none⟩ = some (.int .i64 (m + j))) ∧ (∀ j, k ≤ j → wr.cell? ⟨f, j, none⟩ = w.cell? ⟨f, j, none⟩) ∧ OnlyBlock f w wr) (fun _ i _ => n - (intOf i).toNat)
  case atStart => exact ⟨0, Nat.zero_le _, rfl, by simp, fun j hj => absurd hj (Nat.not_lt_zero j), fun _ _ => rfl, OnlyBlock.refl _ _⟩
  case round =>
    obtain ⟨k, hk, rfl, rfl, h1, h2, hob⟩ := hrel
    have H1 := Lib.hid h1
    have H2 := Lib.hid h2
    clear h1 h2
    by_cases hlt : k < n
    · have hk1 : (k : Int) < (n : Int) := by omega
      have hk0 : (0 : Int) ≤ (k : Int) := by omega
      obtain ⟨v, hv⟩ := HC.out k hlt
      have c0 : wr.cell? ⟨f, k, none⟩ = some v := (H2.out k (Nat.le_refl _)).trans hv
      have f0 : wr.frozen? ⟨f, k, none⟩ = false := (hob.frozen k).trans (HF.out k hlt)
      have hw : IntKind.i64.wrap (m + (k : Int) + 1) = m + (k : Int) + 1 := IntWalk.i64_in _ ⟨by omega, by omega⟩
      have hset := World.cell?_setCell_same' wr ⟨f, k, none⟩ (.int .i64 (m + (k : Int))) (by rw [c0]; rfl)
      have HS := Lib.hid hset
      clear hset hv
      go_wp2_with fail
      go_roundw
      case rel =>
        refine ⟨k + 1, by omega, ?_, ?_, fun j hj => ?_, fun j hj => ?_, hob.set k _⟩
        · go_num
        · go_num
        · by_cases hjk : j = k
          · subst hjk; exact HS.out
          · rw [World.cell?_setCell_other (h := by simp <;> omega)]
            exact H1.out j (by omega)
        · rw [World.cell?_setCell_other (h := by simp <;> omega)]
          exact H2.out j (by omega)
      case measure => simp [intOf]; omega
    · have hkk : n = k := by omega
      subst hkk
      go_wp2_with fail
      go_ret
      exact ⟨rfl, H1.out, hob⟩

set_option maxHeartbeats 1000000 in
theorem heldIntS_c (f n cap : Nat) (m : Int) (w : World) (hlc : n ≤ cap) (hm0 : 0 ≤ m) (hm1 : m ≤ 1099511627776) (hn : n ≤ 1099511627776) (hc : ∀ j, j < n → w.cell? ⟨f, j, none⟩ = some (.int .i64 (m + j))) :
    Calls Try.prog 50 #[.slice (some ⟨f, 0, none⟩) n cap, .int .i64 m] w fun e w' => e = .returned (.int .i64 (m + n)) ∧ w = w' := by
  have HC := Lib.hid hc
  clear hc
  go_enter Try.func50, Try.ntmps50
  go_wp2_with fail
  go_loop [1, 5] (fun s i => ∃ k : Nat, k ≤ n ∧ i = .int .i64 k ∧ s = .int .i64 (m + k)) (fun _ i => n - (intOf i).toNat)
  case atStart => exact ⟨0, Nat.zero_le _, rfl, by simp⟩
  case round =>
    obtain ⟨k, hk, rfl, rfl⟩ := hrel
    by_cases hlt : k < n
    · have hk1 : (k : Int) < (n : Int) := by omega
      have hk0 : (0 : Int) ≤ (k : Int) := by omega
      have c0 := HC.out k hlt
      have hw : IntKind.i64.wrap (m + (k : Int) + 1) = m + (k : Int) + 1 := IntWalk.i64_in _ ⟨by omega, by omega⟩
      go_wp2_with fail
      go_round
      case rel => exact ⟨k + 1, by omega, by go_num, by go_num⟩
      case measure => simp [intOf]; omega
    · have hkk : n = k := by omega
      subst hkk
      go_wp2_with fail
      go_ret
      exact ⟨rfl, rfl⟩
end Go.Proofs.Ytofedboeggdkaaa
