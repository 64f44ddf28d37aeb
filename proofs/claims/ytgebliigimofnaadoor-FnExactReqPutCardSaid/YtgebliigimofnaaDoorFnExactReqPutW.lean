/- The walk of FnExactReqPut; condition: the package variables as listed. -/
import Derived.Test.YtgebliigimofnaaDoorImplPut
namespace Go.Proofs.YtgebliigimofnaaDoor
open Go.RowKit Go.Joins

set_option maxRecDepth 100000 in
set_option maxHeartbeats 2000000 in
theorem fnExactReqPut.walk (v0 : Value) (r : Rq) (w : World) (h0 : IsRq v0 r) (E : Env w) :
    Calls Tryd.prog 3 #[v0] w fun e w' => e = .returned (.bool true) ∧ Below w.heap.size w w' := by
  unfold IsRq at h0
  subst h0
  have EE := Lib.hid E
  clear E
  go_enter Tryd.func3, Tryd.ntmps3
  go_wp2_with fail
  obtain ⟨W, hW, sW, aW, kW⟩ := blocks1 w (.cells #[.int .i64 r.c, .int .i64 r.n, .int .i64 r.o, .int .i64 r.x, .int .i64 r.y] 23)
  rw [← hW]
  clear hW
  have hc := cell_of_block aW
  refine (toReq_c r.c r.n r.o r.x r.y W).mono ?_
  rintro e w1 ⟨rfl, k1⟩
  have K1 := below_next kW k1
  have a1 := carryB k1 (by omega) aW
  clear hc kW k1 aW
  have hc1 := cell_of_block a1
  go_wp2_with fail
  refine (sReqPut_c r.c r.n r.o r.x r.y w1).mono ?_
  rintro e w2 ⟨rfl, k2⟩
  have K2 := below_next K1 k2
  have a2 := carryB k2 (lt_of_block a1) a1
  clear hc1 K1 k2 a1
  have hc2 := cell_of_block a2
  go_wp2_with fail
  refine (toReq_c r.c r.n r.o r.x r.y w2).mono ?_
  rintro e w3 ⟨rfl, k3⟩
  have K3 := below_next K2 k3
  clear hc2 K2 k3 a2
  go_wp2_with fail
  refine (ReqPut_c r.c r.n r.o r.x r.y w3 (EE.out.below K3)).mono ?_
  rintro e w4 ⟨rfl, k4⟩
  go_wp2_with fail
  go_ret
  exact ⟨rfl, below_next K3 k4⟩
end Go.Proofs.YtgebliigimofnaaDoor
