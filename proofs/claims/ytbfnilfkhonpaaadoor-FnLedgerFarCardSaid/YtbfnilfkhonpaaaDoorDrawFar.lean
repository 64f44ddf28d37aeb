/- Contract of DrawLedgerFar: some rows in a list of their own; no condition but a code of bytes. -/
import Derived.Test.YtbfnilfkhonpaaaDoorDrawLed
namespace Go.Proofs.YtbfnilfkhonpaaaDoor
open Go.RowKit Go.Joins

/-- Some rows, at most twelve, in a list of their own. -/
def RowsDrawn (w : World) (e : Ending) (w' : World) : Prop :=
  ∃ (zs : List En) (a' : Option Addr) (cap' : Nat), e = .returned (.slice a' zs.length cap') ∧ zs.length ≤ 12 ∧ Row w' w.heap.size 44 a' cap' 6 En.cs zs ∧ Below w.heap.size w w'

set_option maxHeartbeats 400000 in
theorem DrawLedgerFar_c (v : Value) (z : Bts) (w : World) (hz : IsBytes w v z) :
    Calls Tryd.prog 31 #[v] w (RowsDrawn w) := by
  have HZ := Lib.hid hz
  clear hz
  go_enter Tryd.func31, Tryd.ntmps31
  go_wp2_with fail
  refine (l20Open_c v z _ HZ.out).mono ?_
  rintro e w1 ⟨g, rfl, hg, r1, k1⟩
  go_wp2_with fail
  refine (l20Ledger_c w1 g 0 r1 (by omega)).mono ?_
  rintro e w2 ⟨zs, a', cap', rfl, h12, hrow, -, k2⟩
  have KB := bel_grown k1 k2 hg
  have HROW := Lib.hid (hrow.low k1.size)
  clear hrow k1 k2
  go_wp2_with fail
  go_ret
  exact ⟨zs, a', cap', rfl, h12, HROW.out, KB⟩
end Go.Proofs.YtbfnilfkhonpaaaDoor
