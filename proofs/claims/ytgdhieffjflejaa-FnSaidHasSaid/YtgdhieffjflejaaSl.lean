/- Slices whose elements are rows of cells: what is known of one that came in, of one in a block of its own; the arguments that hold such slices opened; no condition. -/
import Derived.Test.YtgdhieffjflejaaBlocks
set_option linter.unusedSimpArgs false
set_option linter.unusedVariables false
namespace Go.Proofs.Ytgdhieffjflejaa
open Go.WideShapes Go.ChangeAt Go.RowKit Go.Deep Go.Joins

/-- The element number i lies at its place, cell by cell. -/
def RowsAt {α : Type} (w : World) (a : Option Addr) (k : Nat) (R : α → List Value) (zs : List α) : Prop :=
  ∀ i (h : i < zs.length), ∃ b off, a = some ⟨b, off, none⟩ ∧ b < w.heap.size ∧ ∀ j, j < k → w.cell? ⟨b, off + i * k + j, none⟩ = (R zs[i])[j]?
/-- A slice of such elements. -/
def IsSl {α : Type} (w : World) (v : Value) (k : Nat) (R : α → List Value) (zs : List α) : Prop :=
  ∃ a cap, v = .slice a zs.length cap ∧ zs.length ≤ cap ∧ cap ≤ maxLen ∧ RowsAt w a k R zs
/-- The row of an integer. -/
def intR (n : Int) : List Value := [.int .i64 n]
/-- A block with the elements' cells, one behind the other. -/
def flat {α : Type} (R : α → List Value) (zs : List α) : Array Value := (zs.flatMap R).toArray

theorem RowsAt.below {α : Type} {w w' : World} {a : Option Addr} {k : Nat} {R : α → List Value} {zs : List α} (h : RowsAt w a k R zs) (hb : Below w.heap.size w w') : RowsAt w' a k R zs := by
  intro i hi
  obtain ⟨b, off, e, hlt, hc⟩ := h i hi
  exact ⟨b, off, e, Nat.lt_of_lt_of_le hlt hb.size, fun j hj => (hb.cell (p := ⟨b, _, none⟩) hlt).trans (hc j hj)⟩
theorem IsSl.below {α : Type} {w w' : World} {v : Value} {k : Nat} {R : α → List Value} {zs : List α} (h : IsSl w v k R zs) (hb : Below w.heap.size w w') : IsSl w' v k R zs := by
  obtain ⟨a, cap, e, h1, h2, h3⟩ := h
  exact ⟨a, cap, e, h1, h2, h3.below hb⟩

theorem flat_get {α : Type} {R : α → List Value} {k : Nat} (hR : ∀ z, (R z).length = k) : ∀ (zs : List α) (i : Nat) (h : i < zs.length) (j : Nat), j < k → (flat R zs)[i * k + j]? = (R zs[i])[j]? := by
  intro zs
  induction zs with
  | nil => intro i h; cases h
  | cons z zs ih =>
    intro i h j hj
    cases i with
    | zero =>
      simp only [flat, List.flatMap_cons, Nat.zero_mul, Nat.zero_add, List.getElem_cons_zero]
      rw [List.getElem?_toArray, List.getElem?_append_left (by rw [hR]; exact hj)]
    | succ i =>
      have := ih i (by simpa using h) j hj
      simp only [flat, List.flatMap_cons, List.getElem_cons_succ] at this ⊢
      rw [List.getElem?_toArray] at this ⊢
      rw [List.getElem?_append_right (by rw [hR, Nat.succ_mul]; omega), hR, ← this]
      congr 1
      rw [Nat.succ_mul]; omega
theorem flat_size {α : Type} {R : α → List Value} {k : Nat} (hR : ∀ z, (R z).length = k) (zs : List α) : (flat R zs).size = zs.length * k := by
  induction zs with
  | nil => simp [flat]
  | cons z zs ih =>
    simp only [flat, List.flatMap_cons, List.size_toArray, List.length_append, hR, List.length_cons] at ih ⊢
    rw [ih, Nat.succ_mul]; omega

/-- A block of its own is such a slice. -/
theorem rows_of_block {α : Type} {w : World} {B : Nat} {R : α → List Value} {k : Nat} {zs : List α} {t : TypeId} {fr : Nat × Nat} (hR : ∀ z, (R z).length = k) (h : w.heap[B]? = some (.cells (flat R zs) t fr)) :
    RowsAt w (some ⟨B, 0, none⟩) k R zs := by
  intro i hi
  refine ⟨B, 0, rfl, lt_of_block h, fun j hj => ?_⟩
  rw [cell_of_block h, Nat.zero_add]
  exact flat_get hR zs i hi j hj

section
variable {H : Type} {P : Program} {enc : TypeId × Value → H} {w : World} {base b0 : Nat} {spare : Nat → Bool} {held : Bool} {r : Reach} {v : Value} {d : DataW H} {p : List MemPlace}

theorem choose_list {α : Type} {n : Nat} {Q : Nat → α → Prop} (h : ∀ i, i < n → ∃ z, Q i z) : ∃ zs : List α, zs.length = n ∧ ∀ i (hi : i < zs.length), Q i zs[i] := by
  induction n with
  | zero => exact ⟨[], rfl, fun i hi => absurd hi (Nat.not_lt_zero i)⟩
  | succ n ih =>
    obtain ⟨zs, hl, hz⟩ := ih (fun i hi => h i (by omega))
    obtain ⟨z, hq⟩ := h n (by omega)
    refine ⟨zs ++ [z], by simp [hl], fun i hi => ?_⟩
    by_cases hin : i < zs.length
    · rw [List.getElem_append_left hin]; exact hz i hin
    · have : i = zs.length := by simp at hi; omega
      subst this
      simpa [hl] using hq

/-- A slice that came in, opened: its elements, each read by 'hel'. -/
theorem open_rows {α : Type} {t e : TypeId} {R : α → List Value} {k fuel : Nat} {c : Value} {x : DataW H × List MemPlace} (ht : P.underlying t = some (.slice e)) (hC : P.cellsOf e = k) (hk : 0 < k)
    (hel : ∀ n cs y, DataW.trod enc P w base spare held n e cs = some y → ∃ z : α, cs = R z) (h : DataW.trod enc P w base spare held fuel t [c] = some x) : ∃ zs : List α, IsSl w c k R zs := by
  rcases open_slice ht h with ⟨hcs, _⟩ | ⟨a, len, cap, m, n, D, Pl, hcs, _, hl, hm, hmm, _, hi⟩
  · simp at hcs
    subst hcs
    exact ⟨[], none, 0, rfl, Nat.le_refl _, by simp [maxLen], fun i hi => absurd hi (Nat.not_lt_zero i)⟩
  · simp at hcs
    subst hcs
    have hlm : len ≤ m := by rw [hmm]; split <;> omega
    obtain ⟨zs, hzl, hz⟩ := choose_list (α := α) (n := len) (Q := fun i z => w.cells? base (a.add (i * k)) k = some (R z)) (fun i hil => by
      obtain ⟨cs', hc, ht'⟩ := hi i (by omega)
      rw [hC] at hc
      obtain ⟨z, hz⟩ := hel _ _ _ ht'
      exact ⟨z, by rw [hc, hz]⟩)
    subst hzl
    refine ⟨zs, some a, cap, rfl, hl, hm, fun i hil => ?_⟩
    obtain ⟨_, hcl, hat⟩ := World.cells?_some (hz i hil)
    obtain ⟨b, off, spot⟩ := a
    have hspot : spot = none := by
      obtain ⟨_, hcl0, hat0⟩ := World.cells?_some (hz 0 (by omega))
      have h0 := hat0 0 hk
      rw [List.getElem?_eq_getElem (by omega)] at h0
      simpa [Addr.add] using World.cell?_spot h0
    subst hspot
    have hat' : ∀ j, j < k → w.cell? ⟨b, off + i * k + j, none⟩ = (R zs[i])[j]? := fun j hj => by
      have := hat j hj
      rwa [Go.WideShapes.add_plain, Go.WideShapes.add_plain] at this
    refine ⟨b, off, rfl, ?_, hat'⟩
    have h1 := hat' 0 hk
    rw [List.getElem?_eq_getElem (by omega)] at h1
    exact World.block_lt_of_cell? w _ h1

theorem int_el {e : TypeId} (he : P.underlying e = some (.int .i64)) (n : Nat) (cs : List Value) (y : DataW H × List MemPlace) (h : DataW.trod enc P w base spare held n e cs = some y) : ∃ z : Int, cs = intR z := by
  obtain ⟨a, q, _, _⟩ := DataW.trod_int he h
  exact ⟨a, q⟩

/-- A game that came in. -/
structure Gm where
  es : List Rq
  fl : List Int
  la : List Int
def IsGm (w : World) (v : Value) (g : Gm) : Prop := ∃ v0 v1 v2, v = .agg #[v0, v1, v2] ∧ IsSl w v0 5 Rq.cs g.es ∧ IsSl w v1 1 intR g.fl ∧ IsSl w v2 1 intR g.la
/-- A client that is ahead. -/
structure Ah where
  dn : List Rq
  wt : List Rq
  bk : Int
def IsAh (w : World) (v : Value) (g : Ah) : Prop := ∃ v0 v1, v = .agg #[v0, v1, .int .i64 g.bk] ∧ IsSl w v0 5 Rq.cs g.dn ∧ IsSl w v1 5 Rq.cs g.wt

theorem three_fields {t : TypeId} {f0 f1 f2 : Field} (hs : P.underlying t = some (.struct #[f0, f1, f2])) (hone : oneCellFields P #[f0, f1, f2] = true) (hC : P.cellsOf t = 3)
    (hv : Value.okWide P w r b0 t v) (h : DataW.Trod enc P w base spare held t v d p) :
    ∃ (v0 v1 v2 : Value) (y0 y1 y2 : DataW H × List MemPlace) (n : Nat), v = .agg #[v0, v1, v2] ∧ DataW.trod enc P w base spare held n f0.type [v0] = some y0 ∧ DataW.trod enc P w base spare held n f1.type [v1] = some y1 ∧ DataW.trod enc P w base spare held n f2.type [v2] = some y2 := by
  obtain ⟨cs, rfl, hsz⟩ := okWide_struct hs hv
  obtain ⟨l⟩ := cs
  match l, hsz.trans hC with
  | [c0, c1, c2], _ =>
    obtain ⟨fuel, hf⟩ := h
    obtain ⟨xs, n, _, _, _, hlen, hg⟩ := DataW.trod_struct hs hf
    obtain ⟨o0, k0⟩ := hone_of hone 0 f0 rfl
    obtain ⟨o1, k1⟩ := hone_of hone 1 f1 rfl
    obtain ⟨o2, k2⟩ := hone_of hone 2 f2 rfl
    match xs, hlen with
    | [y0, y1, y2], _ =>
      exact ⟨c0, c1, c2, y0, y1, y2, n, rfl, by simpa [Value.cells, o0, k0] using hg 0 f0 rfl, by simpa [Value.cells, o1, k1] using hg 1 f1 rfl, by simpa [Value.cells, o2, k2] using hg 2 f2 rfl⟩


end
end Go.Proofs.Ytgdhieffjflejaa
