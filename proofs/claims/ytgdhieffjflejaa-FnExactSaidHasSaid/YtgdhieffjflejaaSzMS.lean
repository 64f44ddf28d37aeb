/- Lists of letters weighed (szMsgS): a weight that is not below nought bounds the lists; condition: at most 2^20. -/
import Derived.Test.YtgdhieffjflejaaSzM
import Derived.Test.YtgdhieffjflejaaHasS
set_option linter.unusedSimpArgs false
set_option linter.unusedVariables false
namespace Go.Proofs.Ytgdhieffjflejaa
open Go.RowKit Go.Joins

set_option maxRecDepth 100000 in
set_option maxHeartbeats 1000000 in
theorem szMsgS_c (va : Value) (ms : List Mg) (left : Int) (w : World) (ha : IsMs w va ms) (h0 : 0 ≤ left) (h1 : left ≤ 1048576) :
    Calls Try.prog 12 #[va, .int .i64 left] w fun e w' => ∃ l : Int, e = .returned (.int .i64 l) ∧ l ≤ left ∧ (0 ≤ l → ms.length ≤ 1048576 ∧ ∀ m ∈ ms, m.small) ∧ Below w.heap.size w w' := by
  obtain ⟨⟨a, cap, rfl, hlc, hm, hra⟩, hca⟩ := ha
  have HA := Lib.hid hra
  have CA := Lib.hid hca
  clear hra hca
  unfold maxLen at hm
  generalize hnn : ms.length = n at *
  by_cases hlt : left - n < 0
  · go_enter Try.func12, Try.ntmps12
    go_wp2_with fail
    go_ret
    exact ⟨-1, rfl, by omega, fun h => absurd h (by decide), Below.refl _ _⟩
  · go_enter Try.func12, Try.ntmps12
    go_wp2_with fail
    go_loopw [1, 5] (fun s i wr => ∃ (k : Nat) (l : Int), k ≤ n ∧ i = .int .i64 k ∧ s = .int .i64 l ∧ 0 ≤ l ∧ l ≤ left ∧ (∀ j (hj : j < ms.length), j < k → ms[j].small) ∧ Below w.heap.size w wr) (fun _ i _ => n - (intOf i).toNat)
    case atStart => exact ⟨0, left - n, Nat.zero_le _, rfl, rfl, by omega, by omega, fun j _ hj => absurd hj (Nat.not_lt_zero j), Below.refl _ _⟩
    case round =>
      obtain ⟨k, l, hk, rfl, rfl, hl0, hl1, hal, hbel⟩ := hrel
      have AL := Lib.hid hal
      clear hal
      by_cases hlk : k < n
      · have hka : k < ms.length := by omega
        have hk1 : (k : Int) < (n : Int) := by omega
        have hk0 : (0 : Int) ≤ (k : Int) := by omega
        obtain ⟨b0, o0, rfl, hb0, hc0⟩ := mg_at HA.out k hka
        obtain ⟨x0, x1, x2, x3, x4, x5, x6, x7, x8, x9, x10⟩ := hc0 wr hbel
        have SX := (CA.out ms[k] (List.getElem_mem hka)).below hbel
        have HZ := Lib.hid (show ms[k].small → ∀ j (hj : j < ms.length), j < k + 1 → ms[j].small from fun h j hj hjk => by
          by_cases hj' : j < k
          · exact AL.out j hj hj'
          · obtain rfl : j = k := by omega
            exact h)
        clear hc0
        generalize ms[k] = x at *
        have HX := Lib.hid (show IsMg wr (.agg x.cs.toArray) x from ⟨rfl, SX⟩)
        obtain ⟨⟨ax, cx, ex, -⟩, ⟨bx, dx, fx, -⟩, -⟩ := SX
        rw [ex] at x9
        rw [fx] at x10
        simp only [Mg.cs, ex, fx] at HX
        clear ex fx
        go_wp2_with fail
        refine (szMsg_c _ x l wr HX.out hl0 (by omega)).mono ?_
        rintro e w1 ⟨l', rfl, hl', hs, k1⟩
        have hbel1 := below_next hbel k1
        clear k1 hbel x0 x1 x2 x3 x4 x5 x6 x7 x8 x9 x10
        have HS := Lib.hid hs
        clear hs
        by_cases hneg : l' < 0
        · go_wp2_with fail
          go_ret
          exact ⟨-1, rfl, by omega, fun h => absurd h (by decide), hbel1⟩
        · go_wp2_with fail
          refine ⟨⟨k + 1, l', by omega, by go_num, rfl, by omega, by omega, HZ.out (HS.out (by omega)), hbel1⟩, ?_⟩
          simp [intOf]; omega
      · go_wp2_with fail
        go_ret
        refine ⟨l, rfl, hl1, fun _ => ⟨by omega, fun z hz => ?_⟩, hbel⟩
        obtain ⟨j, hj, rfl⟩ := List.getElem_of_mem hz
        exact AL.out j hj (by omega)
end Go.Proofs.Ytgdhieffjflejaa
