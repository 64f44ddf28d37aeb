/- Contracts of l1None and of the reference's ReqPut; condition: 64-bit numbers far from the ends. -/
import Derived.Test.YtofedboeggdkaaaPut
namespace Go.Proofs.Ytofedboeggdkaaa
open Go.RowKit Go.Joins

attribute [local go_sem ↓] eql_rq neq_rq

def noneB (c n o x y : Int) : Bool := eqR c n o x y 0 0 0 0 0

set_option maxHeartbeats 400000 in
theorem l1None_c (c n o x y : Int) (w : World) :
    Calls Try.prog 73 #[.agg #[.int .i64 c, .int .i64 n, .int .i64 o, .int .i64 x, .int .i64 y]] w fun e w' => e = .returned (.bool (noneB c n o x y)) ∧ Below w.heap.size w w' := by
  go_enter Try.func73, Try.ntmps73
  go_wp2
  go_ret
  exact ⟨rfl, (by repeat' (first | with_reducible exact Below.refl _ _ | with_reducible assumption | with_reducible refine Below.alloc ?_ ?_ _ | with_reducible refine Below.drew ?_ | with_reducible refine Below.setCell ?_ ?_ _ | omega | (simp; omega) | (simp; done)))⟩

/-- What the reference's ReqPut gives. -/
def reqPutL (r : Rq) : List UInt8 := if noneB r.c r.n r.o r.x r.y then [110, 111, 110, 101] else if okB r.c r.n r.o r.x r.y then putL r.c r.n r.o r.x r.y else []

theorem okB_op {c n o x y : Int} (h : okB c n o x y = true) : 0 ≤ o ∧ o ≤ 5 ∧ 1 ≤ c ∧ c ≤ 4 ∧ 1 ≤ n ∧ n ≤ 30 ∧ -1 ≤ x ∧ x ≤ 4 ∧ -1 ≤ y ∧ y ≤ 9 := by
  unfold okB at h
  simp only [Bool.and_eq_true, inB_iff] at h
  obtain ⟨⟨hc, hn⟩, h⟩ := h
  split at h
  · simp at h; omega
  · split at h
    · simp [inB] at h; omega
    · split at h
      · simp [inB] at h; omega
      · split at h
        · simp [inB] at h; omega
        · cases h

end Go.Proofs.Ytofedboeggdkaaa
