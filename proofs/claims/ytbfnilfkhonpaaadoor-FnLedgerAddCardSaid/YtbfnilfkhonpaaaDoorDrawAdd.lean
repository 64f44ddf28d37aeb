/- Contract of DrawLedgerAdd: some rows in a list of their own, and an ask; no condition but a code of bytes. -/
import Derived.Test.YtbfnilfkhonpaaaDoorDrawFar
namespace Go.Proofs.YtbfnilfkhonpaaaDoor
open Go.RowKit Go.Joins

/-- Some rows, at most twelve, in a list of their own, and an ask. -/
def RowsAsk (w : World) (e : Ending) (w' : World) : Prop :=
  ∃ (zs : List En) (a' : Option Addr) (cap' : Nat) (r : Rq), e = .returned (.tuple #[.slice a' zs.length cap', .agg #[.int .i64 r.c, .int .i64 r.n, .int .i64 r.o, .int .i64 r.x, .int .i64 r.y]]) ∧ zs.length ≤ 12 ∧ Row w' w.heap.size 44 a' cap' 6 En.cs zs ∧ Below w.heap.size w w'

set_option maxRecDepth 100000 in
set_option maxHeartbeats 2000000 in
theorem DrawLedgerAdd_c (v : Value) (z : Bts) (w : World) (hz : IsBytes w v z) :
    Calls Tryd.prog 38 #[v] w (RowsAsk w) := by
  have HZ := Lib.hid hz
  clear hz
  go_enter Tryd.func38, Tryd.ntmps38
  go_wp2_with fail
  obtain ⟨W, hW, sW, aW, kW⟩ := blocks1 w (.cells #[.int .i64 0, .int .i64 0, .int .i64 0, .int .i64 0, .int .i64 0] 42)
  rw [← hW]
  clear hW
  refine (l20Open_c v z _ (HZ.out.below kW)).mono ?_
  rintro e w1 ⟨g, rfl, hg, r1, k1⟩
  have a1 := carryB k1 (by omega) aW
  have hs1 : w.heap.size + 1 ≤ w1.heap.size := by have := k1.size; omega
  have K1 := Lib.hid (below_next kW k1)
  have hne : w.heap.size ≠ g := by omega
  clear aW kW
  go_wp2_with fail
  refine (l20Ledger_c w1 g 0 r1 (by omega)).mono ?_
  rintro e w2 ⟨zs, a', cap', rfl, h12, hrow, r2, k2⟩
  have a2 := Lib.hid (carry k2 hne a1)
  have HROW := Lib.hid hrow
  have K2 := Lib.hid (bel_grown K1.out k2 (by omega))
  have hs2 := k2.size
  clear k1 k2 hrow a1
  go_wp2_with fail
  refine (l20AnyReq_c w2 g _ r2 (by omega)).mono ?_
  rintro e w3 ⟨⟨c, n, o, x, y⟩, rfl, r3, k3⟩
  have a3 := carry k3 hne a2.out
  have ROW3 := Lib.hid (HROW.out.kept k3 (fun g' hg' e => by have h := (HROW.out.blk hg').1; have := r1.lt; injection e; omega))
  have K3 := Lib.hid (bel_grown K2.out k3 (by omega))
  have hc3 := cell_of_block a3
  have hf3 := unfrozen_of_block a3
  have hs3 := k3.size
  have hl3 : w.heap.size < w3.heap.size := by omega
  clear k3 a2 a3
  go_wp2_with fail
  refine bodyPost_ret (v := .tuple #[.slice a' zs.length cap', .agg #[.int .i64 c, .int .i64 n, .int .i64 o, .int .i64 x, .int .i64 y]]) (by simp [results, Tryd.results38, go_sem, hc3]) rfl ?_
  exact ⟨zs, a', cap', ⟨c, n, o, x, y⟩, rfl, h12, ((Row.setOther (Row.setOther (Row.setOther (Row.setOther (Row.setOther ROW3.out (by simp; omega) _) (by simp; omega) _) (by simp; omega) _) (by simp; omega) _) (by simp; omega) _)).low (by omega), (Below.setCell (Below.setCell (Below.setCell (Below.setCell (Below.setCell K3.out (by simp) _) (by simp) _) (by simp) _) (by simp) _) (by simp) _)⟩
end Go.Proofs.YtbfnilfkhonpaaaDoor
