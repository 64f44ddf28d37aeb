/- Contracts of the functions on requests (in, ReqOk and their kin); no condition. -/
import Derived.Test.YtgdhieffjflejaaBase
set_option linter.unusedSimpArgs false
set_option linter.unusedVariables false
namespace Go.Proofs.Ytgdhieffjflejaa
open Go.RowKit

set_option maxHeartbeats 400000 in
theorem l1In_c (n lo hi : Int) (w : World) :
    Calls Try.prog 42 #[.int .i64 n, .int .i64 lo, .int .i64 hi] w fun e w' => e = .returned (.bool (inB n lo hi)) ∧ w = w' := by
  go_enter Try.func42, Try.ntmps42
  go_wp2
  · go_ret
    exact ⟨ret_bool (by have h : lo ≤ n := by assumption
                        simp [inB, h]), rfl⟩
  · go_ret
    exact ⟨ret_bool (by have h : n < lo := by assumption
                        have h' : ¬ lo ≤ n := by omega
                        simp [inB, h']), rfl⟩

set_option maxHeartbeats 400000 in
theorem in_c (n lo hi : Int) (w : World) :
    Calls Try.prog 67 #[.int .i64 n, .int .i64 lo, .int .i64 hi] w fun e w' => e = .returned (.bool (inB n lo hi)) ∧ w = w' := by
  go_enter Try.func67, Try.ntmps67
  go_wp2
  · go_ret
    exact ⟨ret_bool (by have h : lo ≤ n := by assumption
                        simp [inB, h]), rfl⟩
  · go_ret
    exact ⟨ret_bool (by have h : n < lo := by assumption
                        have h' : ¬ lo ≤ n := by omega
                        simp [inB, h']), rfl⟩

set_option maxHeartbeats 1000000 in
theorem l1Ok_c (c n o x y : Int) (w : World) :
    Calls Try.prog 89 #[.agg #[.int .i64 c, .int .i64 n, .int .i64 o, .int .i64 x, .int .i64 y]] w fun e w' => e = .returned (.bool (okB c n o x y)) ∧ Below w.heap.size w w' := by
  go_enter Try.func89, Try.ntmps89
  go_wp2_with (go_at_call 42; refine (l1In_c _ _ _ _).mono ?_; rintro e w' ⟨rfl, rfl⟩)
  all_goals go_ret
  all_goals refine ⟨ret_bool ?_, (by repeat' (first | with_reducible exact Below.refl _ _ | with_reducible assumption | with_reducible refine Below.alloc ?_ ?_ _ | with_reducible refine Below.drew ?_ | with_reducible refine Below.setCell ?_ ?_ _ | omega | (simp; omega) | (simp; done)))⟩
  all_goals simp_all [okB]

set_option maxHeartbeats 400000 in
theorem toReq_c (c n o x y : Int) (w : World) :
    Calls Try.prog 26 #[.agg #[.int .i64 c, .int .i64 n, .int .i64 o, .int .i64 x, .int .i64 y]] w fun e w' => e = .returned (.agg #[.int .i64 c, .int .i64 n, .int .i64 o, .int .i64 x, .int .i64 y]) ∧ Below w.heap.size w w' := by
  go_enter Try.func26, Try.ntmps26
  go_wp2
  refine bodyPost_ret (v := .agg #[.int .i64 c, .int .i64 n, .int .i64 o, .int .i64 x, .int .i64 y]) (by simp [results, Try.results26, go_sem]) rfl ?_
  exact ⟨rfl, (by repeat' (first | with_reducible exact Below.refl _ _ | with_reducible assumption | with_reducible refine Below.alloc ?_ ?_ _ | with_reducible refine Below.drew ?_ | with_reducible refine Below.setCell ?_ ?_ _ | omega | (simp; omega) | (simp; done)))⟩

set_option maxHeartbeats 1000000 in
theorem eqReq_c (c n o x y c' n' o' x' y' : Int) (w : World) :
    Calls Try.prog 32 #[.agg #[.int .i64 c, .int .i64 n, .int .i64 o, .int .i64 x, .int .i64 y], .agg #[.int .i64 c', .int .i64 n', .int .i64 o', .int .i64 x', .int .i64 y']] w fun e w' => e = .returned (.bool (c == c' && n == n' && o == o' && x == x' && y == y')) ∧ Below w.heap.size w w' := by
  go_enter Try.func32, Try.ntmps32
  go_wp2
  all_goals go_ret
  all_goals refine ⟨ret_bool ?_, (by repeat' (first | with_reducible exact Below.refl _ _ | with_reducible assumption | with_reducible refine Below.alloc ?_ ?_ _ | with_reducible refine Below.drew ?_ | with_reducible refine Below.setCell ?_ ?_ _ | omega | (simp; omega) | (simp; done)))⟩
  all_goals simp_all
end Go.Proofs.Ytgdhieffjflejaa
