/- Contracts of LedgerMeet, the program's and the reference's; condition: the package variables as listed. -/
import Derived.Test.YtilldpoleiippaaDoorLB
set_option linter.unusedSimpArgs false
set_option linter.unusedVariables false
namespace Go.Proofs.YtilldpoleiippaaDoor
open Go.RowKit Go.Joins

def eqE (c n o x y s c' n' o' x' y' s' : Int) : Bool := eqR c n o x y c' n' o' x' y' && s == s'
theorem eqE_refl (c n o x y s : Int) : eqE c n o x y s c n o x y s = true := by simp [eqE, eqR]
theorem eqE_ne {x y : En} (h : x ≠ y) : eqE x.r.c x.r.n x.r.o x.r.x x.r.y x.s y.r.c y.r.n y.r.o y.r.x y.r.y y.s = false := by
  rw [← Bool.not_eq_true]
  unfold eqE
  rw [Bool.and_eq_true, eqR_iff, beq_iff_eq]
  rintro ⟨h1, h2⟩
  apply h
  obtain ⟨xr, xs⟩ := x
  obtain ⟨yr, ys⟩ := y
  simp only at h1 h2
  rw [h1, h2]
theorem eql_en (w : World) (c n o x y s c' n' o' x' y' s' : Int) : (binOp .eql 67 (.agg #[.int .i64 c, .int .i64 n, .int .i64 o, .int .i64 x, .int .i64 y, .int .i64 s]) (.agg #[.int .i64 c', .int .i64 n', .int .i64 o', .int .i64 x', .int .i64 y', .int .i64 s'])).run Tryd.prog w = .ok (.bool (eqE c n o x y s c' n' o' x' y' s')) w := by
  go_simp
  by_cases h1 : c = c' <;> by_cases h2 : n = n' <;> by_cases h3 : o = o' <;> by_cases h4 : x = x' <;> by_cases h5 : y = y' <;> by_cases h6 : s = s' <;> simp [eqE, eqR, h1, h2, h3, h4, h5, h6]
theorem neq_en (w : World) (c n o x y s c' n' o' x' y' s' : Int) : (binOp .neq 67 (.agg #[.int .i64 c, .int .i64 n, .int .i64 o, .int .i64 x, .int .i64 y, .int .i64 s]) (.agg #[.int .i64 c', .int .i64 n', .int .i64 o', .int .i64 x', .int .i64 y', .int .i64 s'])).run Tryd.prog w = .ok (.bool (!eqE c n o x y s c' n' o' x' y' s')) w := by
  go_simp
  by_cases h1 : c = c' <;> by_cases h2 : n = n' <;> by_cases h3 : o = o' <;> by_cases h4 : x = x' <;> by_cases h5 : y = y' <;> by_cases h6 : s = s' <;> simp [eqE, eqR, h1, h2, h3, h4, h5, h6]
attribute [local go_sem ↓] eql_en neq_en

end Go.Proofs.YtilldpoleiippaaDoor
