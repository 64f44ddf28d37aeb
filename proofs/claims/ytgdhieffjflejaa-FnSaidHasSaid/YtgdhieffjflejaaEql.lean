/- '==' and '!=' between two requests, as one test; no condition. -/
import Derived.Test.YtgdhieffjflejaaBase
set_option linter.unusedSimpArgs false
set_option linter.unusedVariables false
namespace Go.Proofs.Ytgdhieffjflejaa
open Go.RowKit

def eqR (c n o x y c' n' o' x' y' : Int) : Bool := c == c' && n == n' && o == o' && x == x' && y == y'

theorem Rq.eq_of {r s : Rq} (h1 : r.c = s.c) (h2 : r.n = s.n) (h3 : r.o = s.o) (h4 : r.x = s.x) (h5 : r.y = s.y) : r = s := by
  obtain ⟨c, n, o, x, y⟩ := r
  obtain ⟨c', n', o', x', y'⟩ := s
  simp only at h1 h2 h3 h4 h5
  subst h1 h2 h3 h4 h5
  rfl
theorem eqR_iff (r s : Rq) : eqR r.c r.n r.o r.x r.y s.c s.n s.o s.x s.y = true ↔ r = s := by
  unfold eqR
  constructor
  · intro h
    simp only [Bool.and_eq_true, beq_iff_eq] at h
    obtain ⟨⟨⟨⟨h1, h2⟩, h3⟩, h4⟩, h5⟩ := h
    exact Rq.eq_of h1 h2 h3 h4 h5
  · rintro rfl
    simp
theorem eqR_refl (c n o x y : Int) : eqR c n o x y c n o x y = true := by simp [eqR]
theorem eqR_ne {r s : Rq} (h : r ≠ s) : eqR r.c r.n r.o r.x r.y s.c s.n s.o s.x s.y = false := by
  rw [← Bool.not_eq_true, eqR_iff]; exact h
theorem eqR_comm (c n o x y c' n' o' x' y' : Int) : eqR c n o x y c' n' o' x' y' = eqR c' n' o' x' y' c n o x y := by
  unfold eqR
  rw [Bool.eq_iff_iff]
  simp only [Bool.and_eq_true, beq_iff_eq]
  constructor <;> (rintro ⟨⟨⟨⟨h1, h2⟩, h3⟩, h4⟩, h5⟩; exact ⟨⟨⟨⟨h1.symm, h2.symm⟩, h3.symm⟩, h4.symm⟩, h5.symm⟩)

theorem eql_rq (w : World) (c n o x y c' n' o' x' y' : Int) : (binOp .eql 30 (.agg #[.int .i64 c, .int .i64 n, .int .i64 o, .int .i64 x, .int .i64 y]) (.agg #[.int .i64 c', .int .i64 n', .int .i64 o', .int .i64 x', .int .i64 y'])).run Try.prog w = .ok (.bool (eqR c n o x y c' n' o' x' y')) w := by
  go_simp
  by_cases h1 : c = c' <;> by_cases h2 : n = n' <;> by_cases h3 : o = o' <;> by_cases h4 : x = x' <;> by_cases h5 : y = y' <;> simp [eqR, h1, h2, h3, h4, h5]
theorem neq_rq (w : World) (c n o x y c' n' o' x' y' : Int) : (binOp .neq 30 (.agg #[.int .i64 c, .int .i64 n, .int .i64 o, .int .i64 x, .int .i64 y]) (.agg #[.int .i64 c', .int .i64 n', .int .i64 o', .int .i64 x', .int .i64 y'])).run Try.prog w = .ok (.bool (!eqR c n o x y c' n' o' x' y')) w := by
  go_simp
  by_cases h1 : c = c' <;> by_cases h2 : n = n' <;> by_cases h3 : o = o' <;> by_cases h4 : x = x' <;> by_cases h5 : y = y' <;> simp [eqR, h1, h2, h3, h4, h5]
end Go.Proofs.Ytgdhieffjflejaa
