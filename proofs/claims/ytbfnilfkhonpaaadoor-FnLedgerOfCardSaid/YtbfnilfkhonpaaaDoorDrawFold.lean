/- Contract of DrawGameFold: some asks, in a list of their own; no condition but a code of bytes. -/
import Derived.Test.YtbfnilfkhonpaaaDoorDrawReqs
namespace Go.Proofs.YtbfnilfkhonpaaaDoor
open Go.RowKit Go.Joins

/-- Some asks, at most so many, in a list of their own. -/
def AsksOwn (most : Nat) (w : World) (e : Ending) (w' : World) : Prop :=
  ∃ (rs : List Rq) (a' : Option Addr) (cap' : Nat), e = .returned (.slice a' rs.length cap') ∧ rs.length ≤ most ∧ IsSl w' (.slice a' rs.length cap') 5 Rq.cs rs ∧ Below w.heap.size w w'

set_option maxRecDepth 100000 in
set_option maxHeartbeats 4000000 in
theorem DrawGameFold_c (v : Value) (z : Bts) (w : World) (hz : IsBytes w v z) :
    Calls Tryd.prog 67 #[v] w (AsksOwn 41 w) := by
  have HZ := Lib.hid hz
  clear hz
  go_enter Tryd.func67, Tryd.ntmps67
  go_wp2_with fail
  refine (l20Open_c v z _ HZ.out).mono ?_
  rintro e w1 ⟨g, rfl, hg, r1, k1⟩
  have hl1 := r1.lt
  go_wp2_with fail
  refine (l20Reqs_c w1 g 0 40 r1 (by omega) (by omega)).mono ?_
  rintro e w2 ⟨rs, a', cap', rfl, hlen, hgood, hrow, r2, k2⟩
  have K2 := Lib.hid (bel_grown k1 k2 hg)
  have HROW := Lib.hid hrow
  have hs2 := k2.size
  clear hrow k1 k2 hgood
  go_wp2_with fail
  refine (pick_c w2 g _ 10 r2 (by omega) (by omega)).mono ?_
  rintro e w3 ⟨p, rfl, -, -, -, r3, k3⟩
  have hs3 := k3.size
  have K3 := Lib.hid (bel_grown K2.out k3 hg)
  have HROW3 := Lib.hid (HROW.out.kept k3 (fun g' hg' => by have := (HROW.out.blk hg').1; intro e; injection e; omega))
  clear k3 K2 HROW
  by_cases hp : p = 0
  · subst hp
    go_wp2_with fail
    refine (l20AnyReq_c w3 g _ r3 (by omega)).mono ?_
    rintro e w4 ⟨⟨c, n, o, x, y⟩, rfl, r4, k4⟩
    have hs4 := k4.size
    have K4 := Lib.hid (bel_grown K3.out k4 hg)
    have HROW4 := Lib.hid (HROW3.out.kept k4 (fun g' hg' => by have := (HROW3.out.blk hg').1; intro e; injection e; omega))
    clear k4 K3 HROW3
    have P11 := Lib.hid (HROW4.out.alloc (.cells #[.int .i64 c, .int .i64 n, .int .i64 o, .int .i64 x, .int .i64 y] 42))
    go_wp2_with (at_builtin; refine wpList_append_row rfl _ _ rfl (rs.length + 1) eltReq rfl rfl P11.out (rowsAt_req _ ⟨c, n, o, x, y⟩ _) rfl rfl rfl (by simp only [maxLen]; omega) (by omega) (by simp <;> omega) ?_)
    intro a5 cap5 w5 q5
    have hblk5 : ∀ g', rowBlk a' cap' = some g' → w.heap.size ≤ g' := fun g' hg' => by have := (HROW4.out.blk hg').1; have := K4.out.size; omega
    have hb5 : Below w.heap.size w4 w5 := Below.grown ((Below.refl _ _).alloc K4.out.size _) q5.grown (by have := K4.out.size; simp <;> omega) hblk5
    have KB := K4.out.trans hb5
    have HS := Lib.hid (q5.row.sl (fun _ => rfl))
    clear hblk5 hb5 q5 P11 HROW4
    go_wp2_with fail
    go_ret
    exact ⟨rs ++ [⟨c, n, o, x, y⟩], a5, cap5, by simp, by simp; omega, by simpa using HS.out, KB⟩
  · go_wp2_with fail
    go_ret
    exact ⟨rs, a', cap', rfl, by omega, HROW3.out.sl (fun _ => rfl), K3.out⟩
end Go.Proofs.YtbfnilfkhonpaaaDoor
