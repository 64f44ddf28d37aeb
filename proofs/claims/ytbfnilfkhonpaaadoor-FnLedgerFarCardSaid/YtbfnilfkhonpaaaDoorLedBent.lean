/- Plain laws of rows one of which is turned; no condition. -/
import Derived.Test.YtbfnilfkhonpaaaDoorLedLaw
import Derived.Laws.BitsAllLaws
namespace Go.Proofs.YtbfnilfkhonpaaaDoor

theorem enAt_set_ne {zs : List En} {k j : Nat} {z : En} (h : j ≠ k) : enAt (zs.set k z) j = enAt zs j := by
  unfold enAt
  simp [List.getD_eq_getElem?_getD, h.symm]
theorem enAt_set_eq {zs : List En} {k : Nat} {z : En} (h : k < zs.length) : enAt (zs.set k z) k = z := by
  unfold enAt
  simp [List.getD_eq_getElem?_getD, h]
theorem far_set_behind {zs : List En} {k : Nat} {z : En} (h : far zs < k) : far (zs.set k z) = far zs := by
  refine far_eq ⟨by rw [List.length_set]; exact (far_is zs).1, fun j hj => ?_, fun hlt => ?_⟩
  · rw [right_congr (fun i hi => enAt_set_ne (by omega))]; exact (far_is zs).2.1 j hj
  · rw [right_congr (fun i hi => enAt_set_ne (by omega))]; exact (far_is zs).2.2 (by simpa using hlt)
theorem far_set_ahead {zs : List En} {k : Nat} {z : En} (h : k < far zs) (hr : z.r = (enAt zs k).r) (hs : z.s ≠ (enAt zs k).s) : far (zs.set k z) = k := by
  have hk : k < zs.length := Nat.lt_of_lt_of_le h (far_is zs).1
  refine far_eq ⟨by rw [List.length_set]; omega, fun j hj => ?_, fun _ => ?_⟩
  · rw [right_congr (fun i hi => enAt_set_ne (by omega))]; exact (far_is zs).2.1 j (by omega)
  · rw [← Bool.not_eq_true]
    intro q
    have h1 := right_sum q
    have h2 := right_sum ((far_is zs).2.1 k h)
    have hp : prevAt (zs.set k z) k = prevAt zs k := by unfold prevAt; split; rfl; rw [enAt_set_ne (by omega)]
    rw [enAt_set_eq hk, hp, hr, ← h2] at h1
    exact hs h1
theorem sum_bounds {zs : List En} {k : Nat} (h : k < far zs) : 0 ≤ (enAt zs k).s ∧ (enAt zs k).s < 4294967296 := by
  rw [right_sum ((far_is zs).2.1 k h)]
  have := sumL_lt (prevAt zs k) ((k : Int) + 1) (enAt zs k).r
  omega
theorem xor_one_ne (a : Nat) : a ^^^ 1 ≠ a := by
  intro h
  have h2 : a ^^^ (a ^^^ 1) = a ^^^ a := by rw [h]
  rw [← Nat.xor_assoc, Nat.xor_self, Nat.zero_xor] at h2
  exact absurd h2 (by decide)
theorem i64_xor_one (a : Nat) (ha : a < 4294967296) : Go.bits .xor .i64 (a : Int) 1 = ((a ^^^ 1 : Nat) : Int) := by
  have hx : a ^^^ 1 < 2 ^ 32 := Nat.xor_lt_two_pow (by omega) (by decide)
  show IntKind.i64.wrap ((BitVec.ofInt 64 (a : Int) ^^^ BitVec.ofInt 64 ((1 : Nat) : Int)).toNat : Int) = _
  rw [BitVec.toNat_xor, ofInt_u64 a (by omega), ofInt_u64 1 (by decide)]
  simp [IntKind.wrap, IntKind.bits, IntKind.signed]
  omega
theorem bent_ne {zs : List En} {k : Nat} (h : k < far zs) : Go.bits .xor .i64 (enAt zs k).s 1 ≠ (enAt zs k).s := by
  obtain ⟨h0, h1⟩ := sum_bounds h
  obtain ⟨a, ha⟩ := Int.eq_ofNat_of_zero_le h0
  rw [ha] at h1 ⊢
  rw [i64_xor_one a (by omega)]
  exact fun q => xor_one_ne a (by omega)
end Go.Proofs.YtbfnilfkhonpaaaDoor
