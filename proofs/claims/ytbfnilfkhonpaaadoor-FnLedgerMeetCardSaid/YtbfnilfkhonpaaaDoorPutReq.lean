/- Contracts of l1None and of the reference's ReqPut; condition: 64-bit numbers far from the ends. -/
import Derived.Test.YtbfnilfkhonpaaaDoorPut
namespace Go.Proofs.YtbfnilfkhonpaaaDoor
open Go.RowKit Go.Joins

attribute [local go_sem ↓] eql_rq neq_rq

def noneB (c n o x y : Int) : Bool := eqR c n o x y 0 0 0 0 0

set_option maxHeartbeats 400000 in
theorem l1None_c (c n o x y : Int) (w : World) :
    Calls Tryd.prog 70 #[.agg #[.int .i64 c, .int .i64 n, .int .i64 o, .int .i64 x, .int .i64 y]] w fun e w' => e = .returned (.bool (noneB c n o x y)) ∧ Below w.heap.size w w' := by
  go_enter Tryd.func70, Tryd.ntmps70
  go_wp2
  go_ret
  exact ⟨rfl, (by repeat' (first | with_reducible exact Below.refl _ _ | with_reducible assumption | with_reducible refine Below.alloc ?_ ?_ _ | with_reducible refine Below.drew ?_ | with_reducible refine Below.setCell ?_ ?_ _ | omega | (simp; omega) | (simp; done)))⟩

/-- What the reference's ReqPut gives. -/
def reqPutL (r : Rq) : List UInt8 := if noneB r.c r.n r.o r.x r.y then [110, 111, 110, 101] else if okB r.c r.n r.o r.x r.y then putL r.c r.n r.o r.x r.y else []

theorem okB_op {c n o x y : Int} (h : okB c n o x y = true) : 0 ≤ o ∧ o ≤ 5 ∧ 1 ≤ c ∧ c ≤ 4 ∧ 1 ≤ n ∧ n ≤ 30 ∧ -1 ≤ x ∧ x ≤ 4 ∧ -1 ≤ y ∧ y ≤ 9 := by
  unfold okB at h
  simp only [Bool.and_eq_true, inB_iff] at h
  obtain ⟨⟨hc, hn⟩, h⟩ := h
  split at h
  · simp at h; omega
  · split at h
    · simp [inB] at h; omega
    · split at h
      · simp [inB] at h; omega
      · split at h
        · simp [inB] at h; omega
        · cases h

set_option maxHeartbeats 400000 in
theorem sReqPut_c (c n o x y : Int) (w : World) :
    Calls Tryd.prog 65 #[.agg #[.int .i64 c, .int .i64 n, .int .i64 o, .int .i64 x, .int .i64 y]] w fun e w' => e = .returned (.string ⟨(reqPutL ⟨c, n, o, x, y⟩).toArray⟩) ∧ Below w.heap.size w w' := by
  cases hn : noneB c n o x y with
  | true =>
    go_enter Tryd.func65, Tryd.ntmps65
    go_wp2_with fail
    obtain ⟨W, hW, sW, aW, kW⟩ := blocks1 w (.cells #[.int .i64 c, .int .i64 n, .int .i64 o, .int .i64 x, .int .i64 y] 42)
    rw [← hW]
    clear hW
    have lW : w.heap.size < W.heap.size := by omega
    have hc0 := cell_of_block aW
    refine (l1None_c c n o x y _).mono ?_
    rintro e w1 ⟨rfl, k1⟩
    have hc1 := cell_of_block (carryB k1 lW aW)
    have l1 : w.heap.size < w1.heap.size := Nat.lt_of_lt_of_le lW k1.size
    have K1 := below_next kW k1
    go_wp2_with fail
    go_ret
    refine ⟨ret_str (by simp [reqPutL, hn]), K1⟩
  | false =>
    cases hk : okB c n o x y with
    | false =>
      go_enter Tryd.func65, Tryd.ntmps65
      go_wp2_with fail
      obtain ⟨W, hW, sW, aW, kW⟩ := blocks1 w (.cells #[.int .i64 c, .int .i64 n, .int .i64 o, .int .i64 x, .int .i64 y] 42)
      rw [← hW]
      clear hW
      have lW : w.heap.size < W.heap.size := by omega
      have hc0 := cell_of_block aW
      refine (l1None_c c n o x y _).mono ?_
      rintro e w1 ⟨rfl, k1⟩
      have hc1 := cell_of_block (carryB k1 lW aW)
      have l1 : w.heap.size < w1.heap.size := Nat.lt_of_lt_of_le lW k1.size
      have K1 := below_next kW k1
      go_wp2_with fail
      refine (l1Ok_c c n o x y _).mono ?_
      rintro e w2 ⟨rfl, k2⟩
      have hc2 := cell_of_block (carryB k2 l1 (carryB k1 lW aW))
      have K2 := below_next K1 k2
      go_wp2_with fail
      go_ret
      refine ⟨ret_str (by simp [reqPutL, hn, hk]), K2⟩
    | true =>
      have hB := okB_op hk
      go_enter Tryd.func65, Tryd.ntmps65
      go_wp2_with fail
      obtain ⟨W, hW, sW, aW, kW⟩ := blocks1 w (.cells #[.int .i64 c, .int .i64 n, .int .i64 o, .int .i64 x, .int .i64 y] 42)
      rw [← hW]
      clear hW
      have lW : w.heap.size < W.heap.size := by omega
      have hc0 := cell_of_block aW
      refine (l1None_c c n o x y _).mono ?_
      rintro e w1 ⟨rfl, k1⟩
      have hc1 := cell_of_block (carryB k1 lW aW)
      have l1 : w.heap.size < w1.heap.size := Nat.lt_of_lt_of_le lW k1.size
      have K1 := below_next kW k1
      go_wp2_with fail
      refine (l1Ok_c c n o x y _).mono ?_
      rintro e w2 ⟨rfl, k2⟩
      have hc2 := cell_of_block (carryB k2 l1 (carryB k1 lW aW))
      have K2 := below_next K1 k2
      go_wp2_with fail
      refine (l1Put_c c n o x y _ (by omega) (by omega) (by omega) (by omega) (by omega) (by omega) (by omega) (by omega) (by omega) (by omega)).mono ?_
      rintro e w3 ⟨rfl, k3⟩
      go_wp2_with fail
      go_ret
      refine ⟨ret_str (by simp [reqPutL, hn, hk]), below_next K2 k3⟩
end Go.Proofs.YtbfnilfkhonpaaaDoor
