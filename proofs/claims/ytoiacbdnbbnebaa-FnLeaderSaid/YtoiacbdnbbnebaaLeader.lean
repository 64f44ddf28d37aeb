/- Contract of DrawLeader; the walk of FnLeader; no condition. -/
import Derived.Test.YtoiacbdnbbnebaaDraw2
import Derived.Test.YtoiacbdnbbnebaaBlocks
namespace Go.Proofs.Ytoiacbdnbbnebaa
open Go.RowKit Go.Joins

def AView (w : World) (e : Ending) (w' : World) : Prop :=
  ∃ v : Int, v ∈ ([0, 1, 2, 3, 4, 5, 6, 7, -1] : List Int) ∧ e = .returned (.int .i64 v) ∧ Below w.heap.size w w'

set_option maxHeartbeats 400000 in
theorem DrawLeader_c (v : Value) (z : Bts) (w : World) (hz : IsBytes w v z) :
    Calls Try.prog 19 #[v] w (AView w) := by
  have HZ := Lib.hid hz
  clear hz
  go_enter Try.func19, Try.ntmps19
  go_wp2_with fail
  refine (l20Open_c v z _ HZ.out).mono ?_
  rintro e w1 ⟨g, rfl, hg, r1, k1⟩
  have hl1 := r1.lt
  go_wp2_with fail
  refine (one_c _ g 0 w1.heap.size 9 _ [0, 1, 2, 3, 4, 5, 6, 7, -1] _ (r1.below (by repeat' (first | with_reducible exact Below.refl _ _ | with_reducible assumption | with_reducible refine Below.alloc ?_ ?_ _ | with_reducible refine Below.drew ?_ | with_reducible refine Below.setCell ?_ ?_ _ | omega | (simp; omega) | (simp; done)))) (by omega) (by omega) (heap_alloc_new w1 _) rfl rfl (by decide) (by decide)).mono ?_
  rintro e w2 ⟨v2, hv2, rfl, r2, k2⟩
  have K2 : Below w.heap.size w w2 := bel_grown (below_next k1 ((Below.refl _ _).alloc (Nat.le_refl _) _)) k2 hg
  have HV := Lib.hid hv2
  clear hv2 k2 r2
  go_wp2_with fail
  go_ret
  exact ⟨v2, HV.out, rfl, K2⟩

set_option maxHeartbeats 1000000 in
theorem fnLeader.walk (v0 : Value) (z0 : Bts) (w : World) (h0 : IsBytes w v0 z0) :
    Calls Try.prog 6 #[v0] w fun e w' => e = .returned (.bool true) ∧ Below w.heap.size w w' := by
  obtain ⟨a0, l0, c0⟩ := z0
  obtain ⟨rfl, hlc0, hm0, _⟩ := id h0
  simp only at hlc0 hm0
  unfold maxLen at hm0
  have H0 := Lib.hid h0
  clear h0
  by_cases hl0 : l0 ≤ 1048576
  · go_enter Try.func6, Try.ntmps6
    go_wp2_with fail
    refine (DrawLeader_c _ _ _ H0.out).mono ?_
    rintro e w1 ⟨v, hv, rfl, k1⟩
    simp only [List.mem_cons, List.not_mem_nil, or_false] at hv
    rcases hv with rfl | rfl | rfl | rfl | rfl | rfl | rfl | rfl | rfl
    all_goals
      go_wp2
      try (refine wp_loop_rounds 4 ?_; repeat any_goals (rw [rounds_succ]; go_wp2))
      all_goals go_ret
      all_goals exact ⟨rfl, k1⟩
  · go_enter Try.func6, Try.ntmps6
    go_wp2_with fail
    go_ret
    exact ⟨rfl, Below.refl _ _⟩
end Go.Proofs.Ytoiacbdnbbnebaa
