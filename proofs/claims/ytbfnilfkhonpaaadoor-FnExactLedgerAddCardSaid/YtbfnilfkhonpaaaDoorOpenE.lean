/- Lists of rows of a ledger that came in, opened; no condition. -/
import Derived.Test.YtbfnilfkhonpaaaDoorEntry
import Derived.Test.YtbfnilfkhonpaaaDoorSl
namespace Go.Proofs.YtbfnilfkhonpaaaDoor
open Go.WideShapes Go.ChangeAt Go.RowKit Go.Deep Go.Joins

section
variable {H : Type} {P : Program} {enc : TypeId × Value → H} {w : World} {base b0 : Nat} {spare : Nat → Bool} {held : Bool} {r : Reach} {v : Value} {d : DataW H} {p : List MemPlace}

theorem six_ints {t : TypeId} {cs : List Value} {fuel : Nat} {x : DataW H × List MemPlace} {f0 f1 : Field} (hs : P.underlying t = some (.struct #[f0, f1])) (o0 : f0.offset = 0) (k0 : P.cellsOf f0.type = 5) (o1 : f1.offset = 5) (k1 : P.cellsOf f1.type = 1)
    (e1 : P.underlying f1.type = some (.int .i64)) (h5 : ∀ n l y, DataW.trod enc P w base spare held n f0.type l = some y → ∃ z : Rq, l = z.cs) (hC : P.cellsOf t = 6) (h : DataW.trod enc P w base spare held fuel t cs = some x) : ∃ z : En, cs = z.cs := by
  obtain ⟨xs, n, _, _, hlc, hlen, hg⟩ := DataW.trod_struct hs h
  rw [hC] at hlc
  match cs, hlc with
  | [c0, c1, c2, c3, c4, c5], _ =>
    match xs, hlen with
    | [y0, y1], _ =>
      have g0 := hg 0 f0 rfl
      have g1 := hg 1 f1 rfl
      rw [o0, k0] at g0
      rw [o1, k1] at g1
      obtain ⟨z, hz⟩ := h5 _ _ _ g0
      obtain ⟨a, q, _, _⟩ := DataW.trod_int e1 g1
      simp at q
      simp [Rq.cs] at hz
      obtain ⟨rfl, rfl, rfl, rfl, rfl⟩ := hz
      subst q
      exact ⟨⟨z, a⟩, rfl⟩

set_option maxRecDepth 100000 in
theorem open_SEntry (hv : Value.okWide Tryd.prog w r b0 33 v) (h : DataW.Trod enc Tryd.prog w base spare held 33 v d p) : ∃ z : List En, IsSl w v 6 En.cs z := by
  obtain ⟨a, len, cap, rfl⟩ := okWide_slice Tryd.underlying33 hv
  obtain ⟨fuel, hf⟩ := h
  exact open_rows (R := En.cs) (k := 6) Tryd.underlying33 (by kernel_rfl) (by decide)
    (fun n cs y hy => six_ints Tryd.underlying91 rfl (by kernel_rfl) rfl (by kernel_rfl) Tryd.underlying3
      (fun n l y hl => five_ints Tryd.underlying51 (by kernel_rfl) (by kernel_rfl) (by kernel_rfl) (by kernel_rfl) (by kernel_rfl) (by kernel_rfl) (by kernel_rfl) hl) (by kernel_rfl) hy) (by simpa [Value.cells] using hf)
set_option maxRecDepth 100000 in
theorem open_SReq (hv : Value.okWide Tryd.prog w r b0 56 v) (h : DataW.Trod enc Tryd.prog w base spare held 56 v d p) : ∃ z : List Rq, IsSl w v 5 Rq.cs z := by
  obtain ⟨a, len, cap, rfl⟩ := okWide_slice Tryd.underlying56 hv
  obtain ⟨fuel, hf⟩ := h
  exact open_rows (R := Rq.cs) (k := 5) Tryd.underlying56 (by kernel_rfl) (by decide) (fun n cs y hy => five_ints Tryd.underlying51 (by kernel_rfl) (by kernel_rfl) (by kernel_rfl) (by kernel_rfl) (by kernel_rfl) (by kernel_rfl) (by kernel_rfl) hy) (by simpa [Value.cells] using hf)
end
end Go.Proofs.YtbfnilfkhonpaaaDoor
