/- Letters weighed (szMsg): a weight that is not below nought bounds the lists; condition: at most 2^20. -/
import Derived.Test.YtgdhieffjflejaaSzV
set_option linter.unusedSimpArgs false
set_option linter.unusedVariables false
namespace Go.Proofs.Ytgdhieffjflejaa
open Go.RowKit Go.Joins

/-- A letter's lists are small. -/
def Mg.small (m : Mg) : Prop := m.cl.length ≤ 1048576 ∧ m.vs.length ≤ 1048576 ∧ ∀ z ∈ m.vs, z.cl.length ≤ 1048576
set_option maxRecDepth 100000 in
set_option maxHeartbeats 1000000 in
theorem szMsg_c (va : Value) (m : Mg) (left : Int) (w : World) (ha : IsMg w va m) (h0 : 0 ≤ left) (h1 : left ≤ 1048576) :
    Calls Try.prog 7 #[va, .int .i64 left] w fun e w' => ∃ l : Int, e = .returned (.int .i64 l) ∧ l ≤ left ∧ (0 ≤ l → m.small) ∧ Below w.heap.size w w' := by
  obtain ⟨k, f, v, s, r, vc, vv, cl, vs⟩ := m
  obtain ⟨rfl, hc, hv⟩ := ha
  simp only at hc hv
  have SV := Lib.hid hv
  obtain ⟨ac, cc, rfl, hcl, hcm, -⟩ := hc
  obtain ⟨⟨av, cv, rfl, -⟩, -⟩ := hv
  simp only [Mg.cs]
  by_cases hlt : left - cl.length < 0
  · go_enter Try.func7, Try.ntmps7
    go_wp2_with fail
    obtain ⟨W, hW, sW, aW, kW⟩ := blocks1 w (.cells #[.int .i64 k, .int .i64 f, .int .i64 v, .int .i64 s, .int .i64 r.c, .int .i64 r.n, .int .i64 r.o, .int .i64 r.x, .int .i64 r.y, .slice ac cl.length cc, .slice av vs.length cv] 27)
    rw [← hW]
    clear hW
    refine (szClaimS_c ac cl.length cc left W hcl hcm h0 h1).mono ?_
    rintro e w1 ⟨rfl, rfl⟩
    rw [show leftOf left cl.length = -1 from by unfold leftOf; rw [if_pos hlt]]
    go_wp2_with fail
    go_ret
    exact ⟨-1, rfl, by omega, fun h => absurd h (by decide), kW⟩
  · go_enter Try.func7, Try.ntmps7
    go_wp2_with fail
    obtain ⟨W, hW, sW, aW, kW⟩ := blocks1 w (.cells #[.int .i64 k, .int .i64 f, .int .i64 v, .int .i64 s, .int .i64 r.c, .int .i64 r.n, .int .i64 r.o, .int .i64 r.x, .int .i64 r.y, .slice ac cl.length cc, .slice av vs.length cv] 27)
    rw [← hW]
    clear hW
    refine (szClaimS_c ac cl.length cc left W hcl hcm h0 h1).mono ?_
    rintro e w1 ⟨rfl, rfl⟩
    rw [show leftOf left cl.length = left - cl.length from by unfold leftOf; rw [if_neg (by omega)]]
    have ca := cell_of_block aW
    have la := lt_of_block aW
    go_wp2_with fail
    refine (szVoteS_c _ vs (left - cl.length) W (SV.out.below kW) (by omega) (by omega)).mono ?_
    rintro e w2 ⟨l, rfl, hl, hs, k2⟩
    have HS := Lib.hid hs
    clear hs
    by_cases hneg : l < 0
    · go_wp2_with fail
      go_ret
      exact ⟨-1, rfl, by omega, fun h => absurd h (by decide), below_next kW k2⟩
    · go_wp2_with fail
      go_ret
      exact ⟨l, rfl, by omega, fun h => ⟨by simp only; omega, (HS.out h).1, (HS.out h).2⟩, below_next kW k2⟩
end Go.Proofs.Ytgdhieffjflejaa
