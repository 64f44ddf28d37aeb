/- Votes weighed (szVote, szVoteS): a weight that is not below nought bounds the lists; condition: at most 2^20. -/
import Derived.Test.YtgdhieffjflejaaOpenM
import Derived.Test.YtgdhieffjflejaaBlocks
set_option linter.unusedSimpArgs false
set_option linter.unusedVariables false
namespace Go.Proofs.Ytgdhieffjflejaa
open Go.RowKit Go.Joins

set_option maxRecDepth 100000 in
set_option maxHeartbeats 1000000 in
theorem szVote_c (F left : Int) (a : Option Addr) (n c : Nat) (w : World) (hlc : n ≤ c) (hm : c ≤ maxLen) (h0 : 0 ≤ left) (h1 : left ≤ 1048576) :
    Calls Try.prog 52 #[.agg #[.int .i64 F, .slice a n c], .int .i64 left] w fun e w' => e = .returned (.int .i64 (leftOf left n)) ∧ Below w.heap.size w w' := by
  by_cases hlt : left - n < 0
  · go_enter Try.func52, Try.ntmps52
    go_wp2_with fail
    obtain ⟨W, hW, sW, aW, kW⟩ := blocks1 w (.cells #[.int .i64 F, .slice a n c] 86)
    rw [← hW]
    clear hW
    refine (szClaimS_c a n c left W hlc hm h0 h1).mono ?_
    rintro e w1 ⟨rfl, rfl⟩
    rw [show leftOf left n = -1 from by unfold leftOf; rw [if_pos hlt]]
    go_wp2_with fail
    go_ret
    exact ⟨ret_int (by unfold leftOf; rw [if_pos hlt]), kW⟩
  · go_enter Try.func52, Try.ntmps52
    go_wp2_with fail
    obtain ⟨W, hW, sW, aW, kW⟩ := blocks1 w (.cells #[.int .i64 F, .slice a n c] 86)
    rw [← hW]
    clear hW
    refine (szClaimS_c a n c left W hlc hm h0 h1).mono ?_
    rintro e w1 ⟨rfl, rfl⟩
    rw [show leftOf left n = left - n from by unfold leftOf; rw [if_neg (by omega)]]
    go_wp2_with fail
    go_ret
    exact ⟨ret_int (by unfold leftOf; rw [if_neg (by omega)]), kW⟩

set_option maxRecDepth 100000 in
set_option maxHeartbeats 1000000 in
theorem szVoteS_c (va : Value) (xs : List Vx) (left : Int) (w : World) (ha : IsVs w va xs) (h0 : 0 ≤ left) (h1 : left ≤ 1048576) :
    Calls Try.prog 24 #[va, .int .i64 left] w fun e w' => ∃ l : Int, e = .returned (.int .i64 l) ∧ l ≤ left ∧ (0 ≤ l → xs.length ≤ 1048576 ∧ ∀ z ∈ xs, z.cl.length ≤ 1048576) ∧ Below w.heap.size w w' := by
  obtain ⟨⟨a, cap, rfl, hlc, hm, hra⟩, hca⟩ := ha
  have HA := Lib.hid hra
  have CA := Lib.hid hca
  clear hra hca
  unfold maxLen at hm
  generalize hnn : xs.length = n at *
  by_cases hlt : left - n < 0
  · go_enter Try.func24, Try.ntmps24
    go_wp2_with fail
    go_ret
    exact ⟨-1, rfl, by omega, fun h => absurd h (by decide), Below.refl _ _⟩
  · go_enter Try.func24, Try.ntmps24
    go_wp2_with fail
    go_loopw [1, 5] (fun s i wr => ∃ (k : Nat) (l : Int), k ≤ n ∧ i = .int .i64 k ∧ s = .int .i64 l ∧ 0 ≤ l ∧ l ≤ left ∧ (∀ j (hj : j < xs.length), j < k → xs[j].cl.length ≤ 1048576) ∧ Below w.heap.size w wr) (fun _ i _ => n - (intOf i).toNat)
    case atStart => exact ⟨0, left - n, Nat.zero_le _, rfl, rfl, by omega, by omega, fun j _ hj => absurd hj (Nat.not_lt_zero j), Below.refl _ _⟩
    case round =>
      obtain ⟨k, l, hk, rfl, rfl, hl0, hl1, hal, hbel⟩ := hrel
      have AL := Lib.hid hal
      clear hal
      by_cases hlk : k < n
      · have hka : k < xs.length := by omega
        have hk1 : (k : Int) < (n : Int) := by omega
        have hk0 : (0 : Int) ≤ (k : Int) := by omega
        obtain ⟨b0, o0, rfl, hb0, hc0⟩ := HA.out k hka
        have c0 : wr.cell? ⟨b0, o0 + k * 2, none⟩ = some (.int .i64 xs[k].f) := (hbel.cell (p := ⟨b0, _, none⟩) hb0).trans (hc0 0 (by decide))
        have c1 : wr.cell? ⟨b0, o0 + k * 2 + 1, none⟩ = some xs[k].sl := (hbel.cell (p := ⟨b0, _, none⟩) hb0).trans (hc0 1 (by decide))
        have SX := CA.out xs[k] (List.getElem_mem hka)
        have HX := Lib.hid (show xs[k].cl.length ≤ 1048576 → ∀ j (hj : j < xs.length), j < k + 1 → xs[j].cl.length ≤ 1048576 from fun h j hj hjk => by
          by_cases hj' : j < k
          · exact AL.out j hj hj'
          · obtain rfl : j = k := by omega
            exact h)
        clear hc0
        generalize xs[k] = x at c0 c1 SX HX
        obtain ⟨F, sx, cx⟩ := x
        obtain ⟨ax, kx, hsx, hxl, hxm, -⟩ := SX
        simp only at c0 c1 hsx hxl HX
        subst hsx
        go_wp2_with fail
        refine (szVote_c F l ax cx.length kx wr hxl hxm hl0 (by omega)).mono ?_
        rintro e w1 ⟨rfl, k1⟩
        have hbel1 := below_next hbel k1
        clear k1 hbel c0 c1
        by_cases hneg : l - cx.length < 0
        · rw [show leftOf l cx.length = -1 from by unfold leftOf; rw [if_pos hneg]]
          go_wp2_with fail
          go_ret
          exact ⟨-1, rfl, by omega, fun h => absurd h (by decide), hbel1⟩
        · rw [show leftOf l cx.length = l - cx.length from by unfold leftOf; rw [if_neg (by omega)]]
          go_wp2_with fail
          refine ⟨⟨k + 1, l - cx.length, by omega, by go_num, rfl, by omega, by omega, HX.out (by omega), hbel1⟩, ?_⟩
          simp [intOf]; omega
      · go_wp2_with fail
        go_ret
        refine ⟨l, rfl, hl1, fun _ => ⟨by omega, fun z hz => ?_⟩, hbel⟩
        obtain ⟨j, hj, rfl⟩ := List.getElem_of_mem hz
        exact AL.out j hj (by omega)
end Go.Proofs.Ytgdhieffjflejaa
