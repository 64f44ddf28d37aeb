/- A cell of an own row stored: the row with one element turned; no condition. -/
import Derived.Test.YtgdhieffjflejaaRow
import Derived.Test.YtgdhieffjflejaaBlocks
set_option linter.unusedSimpArgs false
set_option linter.unusedVariables false
namespace Go.Proofs.Ytgdhieffjflejaa
open Go.RowKit Go.Joins

theorem Row.setOne {α : Type} {w : World} {B : Nat} {e : TypeId} {a : Option Addr} {cap k : Nat} {R : α → List Value} {zs : List α} (h : Row w B e a cap k R zs) (hR : ∀ z, (R z).length = k) {i j g : Nat} (hi : i < zs.length) (hj : j < k) (z' : α) (v : Value)
    (hv : (R z')[j]? = some v) (ho : ∀ j', j' < k → j' ≠ j → (R z')[j']? = (R zs[i])[j']?) (ha : a = some ⟨g, 0, none⟩) : Row (w.setCell ⟨g, i * k + j, none⟩ v) B e a cap k R (zs.set i z') := by
  refine ⟨by simpa using h.len, h.max, fun hc => ?_⟩
  obtain ⟨g', cur, q1, q2, q3, q4, q5⟩ := h.own hc
  obtain rfl : g = g' := by rw [ha] at q1; injection q1 with q1; injection q1
  refine ⟨g, cur.setIfInBounds (i * k + j) v, ha, q2, block_setCell q3 v, by simpa using q4, fun m hm => ?_⟩
  rw [List.length_set] at hm
  have hk : 0 < k := by omega
  have hq : m / k < zs.length := Nat.div_lt_of_lt_mul (by rw [Nat.mul_comm]; exact hm)
  have hr : m % k < k := Nat.mod_lt _ hk
  have he : m / k * k + m % k = m := by rw [Nat.mul_comm]; exact Nat.div_add_mod m k
  have f1 := flat_get hR (zs.set i z') (m / k) (by simpa using hq) (m % k) hr
  have f2 := flat_get hR zs (m / k) hq (m % k) hr
  rw [he] at f1 f2
  rw [f1, Array.getElem?_setIfInBounds]
  by_cases hm2 : i * k + j = m
  · have h1 : m / k = i := by rw [← hm2, Nat.mul_comm, Nat.mul_add_div hk, Nat.div_eq_of_lt hj, Nat.add_zero]
    have h2 : m % k = j := by rw [← hm2, Nat.mul_comm, Nat.mul_add_mod, Nat.mod_eq_of_lt hj]
    have hlt : m < cur.size := by
      have : zs.length * k ≤ cap * k := Nat.mul_le_mul_right k h.len
      omega
    rw [if_pos hm2, if_pos (by rw [hm2]; exact hlt)]
    subst h1 h2
    rw [List.getElem_set_self]
    exact hv.symm
  · rw [if_neg hm2, q5 m hm, f2]
    by_cases h1 : m / k = i
    · have h2 : m % k ≠ j := fun q => hm2 (by rw [← h1, ← q]; exact he)
      subst h1
      rw [List.getElem_set_self]
      exact (ho _ hr h2).symm
    · rw [List.getElem_set_ne (fun q => h1 q.symm)]
end Go.Proofs.Ytgdhieffjflejaa
