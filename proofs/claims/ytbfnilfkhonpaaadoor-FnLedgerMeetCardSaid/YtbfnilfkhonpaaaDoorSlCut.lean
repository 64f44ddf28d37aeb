/- The first part of a slice; no condition. -/
import Derived.Test.YtbfnilfkhonpaaaDoorLedOfI
namespace Go.Proofs.YtbfnilfkhonpaaaDoor
open Go.RowKit

theorem IsSl.cutTo {α : Type} {w : World} {a : Option Addr} {n cap k m : Nat} {R : α → List Value} {zs : List α} (h : IsSl w (.slice a n cap) k R zs) (hm : m ≤ n) : IsSl w (.slice a m cap) k R (zs.take m) := by
  obtain ⟨hl, hc, hx, hr⟩ := h.bounds
  exact ⟨a, cap, by rw [List.length_take, Nat.min_eq_left (by omega)], by rw [List.length_take]; omega, hx, hr.taken⟩
end Go.Proofs.YtbfnilfkhonpaaaDoor
