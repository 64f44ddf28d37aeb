/- Elements of slices read at their places; no condition. -/
import Derived.Test.YtgdhieffjflejaaSl
set_option linter.unusedSimpArgs false
set_option linter.unusedVariables false
namespace Go.Proofs.Ytgdhieffjflejaa
open Go.RowKit Go.Joins

theorem IsSl.bounds {α : Type} {w : World} {a : Option Addr} {n cap k : Nat} {R : α → List Value} {zs : List α} (h : IsSl w (.slice a n cap) k R zs) : zs.length = n ∧ n ≤ cap ∧ cap ≤ maxLen ∧ RowsAt w a k R zs := by
  obtain ⟨_, _, e, hl, hm, hr⟩ := h
  simp only [Value.slice.injEq] at e
  obtain ⟨rfl, rfl, rfl⟩ := e
  exact ⟨rfl, hl, hm, hr⟩
theorem five_at {w : World} {a : Option Addr} {zs : List Rq} (h : RowsAt w a 5 Rq.cs zs) (k : Nat) (hk : k < zs.length) :
    ∃ b off, a = some ⟨b, off, none⟩ ∧ b < w.heap.size ∧ ∀ wr, Below w.heap.size w wr → wr.cell? ⟨b, off + k * 5, none⟩ = some (.int .i64 zs[k].c) ∧ wr.cell? ⟨b, off + k * 5 + 1, none⟩ = some (.int .i64 zs[k].n) ∧
      wr.cell? ⟨b, off + k * 5 + 2, none⟩ = some (.int .i64 zs[k].o) ∧ wr.cell? ⟨b, off + k * 5 + 3, none⟩ = some (.int .i64 zs[k].x) ∧ wr.cell? ⟨b, off + k * 5 + 4, none⟩ = some (.int .i64 zs[k].y) := by
  obtain ⟨b, off, rfl, hb, hc⟩ := h k hk
  refine ⟨b, off, rfl, hb, fun wr hbel => ?_⟩
  have g : ∀ j, j < 5 → wr.cell? ⟨b, off + k * 5 + j, none⟩ = zs[k].cs[j]? := fun j hj => (hbel.cell (p := ⟨b, _, none⟩) hb).trans (hc j hj)
  exact ⟨g 0 (by decide), g 1 (by decide), g 2 (by decide), g 3 (by decide), g 4 (by decide)⟩
theorem one_at {w : World} {a : Option Addr} {zs : List Int} (h : RowsAt w a 1 intR zs) (k : Nat) (hk : k < zs.length) :
    ∃ b off, a = some ⟨b, off, none⟩ ∧ b < w.heap.size ∧ ∀ wr, Below w.heap.size w wr → wr.cell? ⟨b, off + k, none⟩ = some (.int .i64 zs[k]) := by
  obtain ⟨b, off, rfl, hb, hc⟩ := h k hk
  refine ⟨b, off, rfl, hb, fun wr hbel => ?_⟩
  have h := (hbel.cell (p := ⟨b, _, none⟩) hb).trans (hc 0 (by decide))
  rwa [Nat.mul_one, Nat.add_zero] at h
end Go.Proofs.Ytgdhieffjflejaa
