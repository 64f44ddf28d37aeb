/- The package variables that the walks read: strconv's table of tens, the words of the operations; condition: what the row lists. -/
import Derived.Test.YtbfnilfkhonpaaaDoorPut
import Derived.LaidMore
import Derived.Stop.LaidErr
import Derived.Lib.LaidTab
import Derived.Lib.SmallJoins
import Derived.MakeChecks
import Derived.Shelf.Strconv.Itoa3
namespace Go.Proofs.YtbfnilfkhonpaaaDoor
open Go.ChangeShapes Go.WideShapes Go.RowKit Go.Joins

theorem gPow : Tryd.prog.globalNamed "internal/strconv.uint64pow10" = some 4 := by kernel_rfl
theorem gWords : Tryd.prog.globalNamed "loop.example/wapentake/impl.words" = some 0 := by kernel_rfl

/-- What the walks ask of the package variables. -/
structure Env (w : World) : Prop where
  pow : Lib.TabIs Tryd.prog w "internal/strconv.uint64pow10" .u64 Lib.pow10Tab
  words : ∃ b off cap, w.cell? ⟨0, 0, none⟩ = some (.slice (some ⟨b, off, none⟩) 6 cap) ∧ 6 ≤ cap ∧ ∀ k, k < 6 → w.cell? ⟨b, off + k, none⟩ = some (.string ⟨(words.getD k []).toArray⟩)

theorem cell_stays {w w' : World} {b o : Nat} {v : Value} (k : Below w.heap.size w w') (h : w.cell? ⟨b, o, none⟩ = some v) : w'.cell? ⟨b, o, none⟩ = some v :=
  (k.cell (p := ⟨b, o, none⟩) (World.block_lt_of_cell? w _ h)).trans h
theorem Env.below {w w' : World} (h : Env w) (k : Below w.heap.size w w') : Env w' := by
  obtain ⟨h1, b, off, cap, h2, h3, h4⟩ := h
  exact ⟨tab_stays gPow h1 k (Nat.le_refl _), b, off, cap, cell_stays k h2, h3, fun i hi => cell_stays k (h4 i hi)⟩
theorem Env.grown {w w' : World} {g : Nat} {B : Nat} (h : Env w) (k : Below B w w') (hB : w.heap.size ≤ B) : Env w' := h.below (k.mono hB)

theorem words_of_laid {W : World} {rest : List (String × DataW Unit)} (h : laidMet Tryd.prog (("loop.example/wapentake/impl.words", Rows.laid_loop_example_wapentake_impl_words) :: rest) W) :
    ∃ b off cap, W.cell? ⟨0, 0, none⟩ = some (.slice (some ⟨b, off, none⟩) 6 cap) ∧ 6 ≤ cap ∧ ∀ k, k < 6 → W.cell? ⟨b, off + k, none⟩ = some (.string ⟨(words.getD k []).toArray⟩) := by
  obtain ⟨ps, ⟨g, t, cs, fuel, p, q, hg, ht, hvar, hd, _, _⟩, _⟩ := h
  obtain rfl := Option.some.inj (gWords.symm.trans hg)
  have hty : (Tryd.prog.globals[0]?).map (·.type) = some 62 := by kernel_rfl
  obtain rfl := Option.some.inj (hty.symm.trans ht)
  obtain ⟨a, cap, hcs, hcap, hel⟩ := open_row (P := Tryd.prog) Tryd.underlying62 (by kernel_rfl) hd
  have hc0 : W.cell? ⟨0, 0, none⟩ = some (.slice (some a) 6 cap) := by
    have := World.var?_cell hg hvar 0
    rw [Array.eq_one_of_toList hcs] at this
    simpa using this
  have str : ∀ k (d : DataW Unit) (s : List UInt8), [DataW.lit (.string []), .lit (.string [106, 111, 105, 110]), .lit (.string [109, 111, 118, 101]), .lit (.string [116, 97, 107, 101]), .lit (.string [104, 105, 116]), .lit (.string [103, 105, 118, 101])][k]? = some d → d = .lit (.string s) → W.cell? (a.add k) = some (.string ⟨s.toArray⟩) := by
    intro k d s hk hd
    obtain ⟨v, n, q, hv, htr⟩ := hel k d hk
    obtain ⟨x, hx, hx2, _⟩ := DataW.trod_string Tryd.underlying9 htr
    simp only [List.cons.injEq, and_true] at hx
    subst hx hd
    simp only [Prod.mk.injEq, DataW.lit.injEq, Lit.string.injEq] at hx2
    rw [hv, hx2.1]
  have hspot := World.cell?_spot (str 0 _ [] rfl rfl)
  obtain ⟨b, off, spot⟩ := a
  obtain rfl : spot = none := by simpa [Addr.add] using hspot
  refine ⟨b, off, cap, hc0, hcap, fun k hk => ?_⟩
  match k, hk with
  | 0, _ => have := str 0 _ [] rfl rfl; rwa [Go.WideShapes.add_plain] at this
  | 1, _ => have := str 1 _ [106, 111, 105, 110] rfl rfl; rwa [Go.WideShapes.add_plain] at this
  | 2, _ => have := str 2 _ [109, 111, 118, 101] rfl rfl; rwa [Go.WideShapes.add_plain] at this
  | 3, _ => have := str 3 _ [116, 97, 107, 101] rfl rfl; rwa [Go.WideShapes.add_plain] at this
  | 4, _ => have := str 4 _ [104, 105, 116] rfl rfl; rwa [Go.WideShapes.add_plain] at this
  | 5, _ => have := str 5 _ [103, 105, 118, 101] rfl rfl; rwa [Go.WideShapes.add_plain] at this

theorem pow_of_laid {W : World} {rest : List (String × DataW Unit)} (h : laidMet Tryd.prog (("internal/strconv.uint64pow10", Rows.laid_internal_strconv_uint64pow10) :: rest) W) :
    Lib.TabIs Tryd.prog W "internal/strconv.uint64pow10" .u64 Lib.pow10Tab :=
  Lib.tabIs_of_head (t := 145) (e := 129) (n := 20) gPow (by kernel_rfl) Tryd.underlying145 Tryd.underlying129 (by kernel_rfl) (by kernel_rfl) h
end Go.Proofs.YtbfnilfkhonpaaaDoor
