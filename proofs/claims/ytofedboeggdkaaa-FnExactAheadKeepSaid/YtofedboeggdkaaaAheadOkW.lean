/- The walk of FnExactAheadOk; no condition. -/
import Derived.Test.YtofedboeggdkaaaAheadOk
namespace Go.Proofs.Ytofedboeggdkaaa
open Go.RowKit Go.Joins

set_option maxHeartbeats 1000000 in
theorem sAheadOk_c (z : Ah) (a0 a1 : Option Addr) (c0 c1 : Nat) (w : World) (h0 : IsSl w (.slice a0 z.dn.length c0) 5 Rq.cs z.dn) (h1 : IsSl w (.slice a1 z.wt.length c1) 5 Rq.cs z.wt) (hs : z.dn.length + z.wt.length ≤ 1048576) :
    Calls Try.prog 28 #[.agg #[.slice a0 z.dn.length c0, .slice a1 z.wt.length c1, .int .i64 z.bk]] w fun e w' => e = .returned (.bool (aheadB z)) ∧ Below w.heap.size w w' := by
  have H0 := Lib.hid h0
  have H1 := Lib.hid h1
  clear h0 h1
  go_enter Try.func28, Try.ntmps28
  go_wp2_with fail
  obtain ⟨W, hW, sW, aW, kW⟩ := blocks1 w (.cells #[.slice a0 z.dn.length c0, .slice a1 z.wt.length c1, .int .i64 z.bk] 30)
  rw [← hW]
  clear hW
  refine (l8Ok_c z a0 a1 c0 c1 _ (H0.out.below kW) (H1.out.below kW) hs).mono ?_
  rintro e w1 ⟨rfl, k1⟩
  have K1 := below_next kW k1
  go_wp2_with fail
  go_ret
  exact ⟨rfl, K1⟩

end Go.Proofs.Ytofedboeggdkaaa
