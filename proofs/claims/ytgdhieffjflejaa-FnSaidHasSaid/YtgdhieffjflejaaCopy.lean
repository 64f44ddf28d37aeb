/- Contracts of the functions that copy a law's slices (toIntS, toEntS, toReqS), that weigh and that compare them; condition: at most 2^20 elements. -/
import Derived.Test.YtgdhieffjflejaaSl
import Derived.Test.YtgdhieffjflejaaReq
import Derived.LoopTactic
set_option linter.unusedSimpArgs false
set_option linter.unusedVariables false
namespace Go.Proofs.Ytgdhieffjflejaa
open Go.RowKit Go.Joins

theorem flat_int (zs : List Int) : flat intR zs = (zs.map (Value.int .i64)).toArray := by
  unfold flat
  congr 1
  induction zs with
  | nil => rfl
  | cons z zs ih => simp [List.flatMap_cons, intR] at ih ⊢; exact ih
theorem flat_int_set (zs : List Int) (i : Nat) (x : Int) : (flat intR zs).setIfInBounds i (.int .i64 x) = flat intR (zs.set i x) := by
  rw [flat_int, flat_int, List.setIfInBounds_toArray, List.map_set]
theorem made_int (n : Nat) : madeCells #[.int .i64 0] n = flat intR (List.replicate n 0) := by
  rw [flat_int]
  apply Array.ext
  · simp [madeCells]
  · intro i h1 h2
    simp [madeCells, Nat.mod_one]

/-- What is alike up to k, and k all: alike. -/
theorem alike_all {α : Type} {ys zs : List α} {k : Nat} (hl : ys.length = zs.length) (h : ∀ j, j < k → ys[j]? = zs[j]?) (hk : zs.length ≤ k) : ys = zs := by
  apply List.ext_getElem?
  intro i
  by_cases hi : i < k
  · exact h i hi
  · rw [List.getElem?_eq_none (by omega), List.getElem?_eq_none (by omega)]
theorem alike_next {α : Type} {ys zs : List α} {k : Nat} (hk : k < zs.length) (hl : ys.length = zs.length) (h : ∀ j, j < k → ys[j]? = zs[j]?) : ∀ j, j < k + 1 → (ys.set k zs[k])[j]? = zs[j]? := by
  intro j hj
  by_cases hjk : j = k
  · subst hjk
    rw [List.getElem?_set_self (by omega), List.getElem?_eq_getElem hk]
  · rw [List.getElem?_set_ne (by omega)]
    exact h j (by omega)

/-- What the copy gives. -/
def Copied {α : Type} (t : TypeId) (R : α → List Value) (zs : List α) (w : World) (e : Ending) (w' : World) : Prop :=
  e = .returned (.slice (some ⟨w.heap.size, 0, none⟩) zs.length zs.length) ∧ w'.heap[w.heap.size]? = some (.cells (flat R zs) t (0, 0)) ∧ Below w.heap.size w w'

theorem infoInt : (Try.prog.info? 3).map (fun i => (i.zero, i.size, i.bytes)) = some (some (.int .i64 0), 1, 8) := by kernel_rfl

theorem make_int (w : World) (n : Nat) (h : n ≤ 1048576) : (Instr.makeSlice 101 (.int .i64 (n : Int)) (.int .i64 (n : Int))).run Try.prog w = .ok (.slice (some ⟨w.heap.size, 0, none⟩) n n) (w.alloc (.cells (flat intR (List.replicate n 0)) 3)) := by
  obtain ⟨i0, hi, hz0, hz1, hz2⟩ := info_parts infoInt
  have := run_make (P := Try.prog) (w := w) 101 3 i0 (.int .i64 0) Try.underlying101 hi hz0 .i64 .i64 (n : Int) (n : Int) (by omega) (by omega) (by rw [hz2]; omega) (by omega)
  rw [hz1] at this
  rw [← made_int]
  simpa [Value.cells] using this

theorem five_len (z : Rq) : z.cs.length = 5 := rfl
theorem flat_five_set (zs : List Rq) (i : Nat) (h : i < zs.length) (r : Rq) :
    (((((flat Rq.cs zs).setIfInBounds (i * 5) (.int .i64 r.c)).setIfInBounds (i * 5 + 1) (.int .i64 r.n)).setIfInBounds (i * 5 + 2) (.int .i64 r.o)).setIfInBounds (i * 5 + 3) (.int .i64 r.x)).setIfInBounds (i * 5 + 4) (.int .i64 r.y) = flat Rq.cs (zs.set i r) := by
  unfold flat
  simp only [List.setIfInBounds_toArray]
  congr 1
  induction zs generalizing i with
  | nil => cases h
  | cons z zs ih =>
    cases i with
    | zero => simp [List.flatMap_cons, Rq.cs]
    | succ i =>
      have := ih i (by simpa using h)
      have e : ∀ j, (i + 1) * 5 + j = 5 + (i * 5 + j) := fun j => by omega
      have e0 : (i + 1) * 5 = 5 + i * 5 := by omega
      have ap : ∀ (l : List Value) (m : Nat) (v : Value), (z.cs ++ l).set (5 + m) v = z.cs ++ l.set m v := fun l m v => by
        rw [List.set_append_right _ _ (by rw [five_len]; omega), five_len]
        congr 2
        omega
      simp only [List.flatMap_cons, List.set_cons_succ]
      rw [e 1, e 2, e 3, e 4, e0, ap, ap, ap, ap, ap, this]
theorem made_five (n : Nat) : madeCells #[.int .i64 0, .int .i64 0, .int .i64 0, .int .i64 0, .int .i64 0] (n * 5) = flat Rq.cs (List.replicate n ⟨0, 0, 0, 0, 0⟩) := by
  apply Array.ext
  · rw [flat_size five_len]; simp [madeCells]
  · intro i h1 h2
    have hi : i < n * 5 := by simpa [madeCells] using h1
    have g := flat_get five_len (List.replicate n (⟨0, 0, 0, 0, 0⟩ : Rq)) (i / 5) (by simp; omega) (i % 5) (by omega)
    rw [show i / 5 * 5 + i % 5 = i by omega] at g
    have hm : i % 5 = 0 ∨ i % 5 = 1 ∨ i % 5 = 2 ∨ i % 5 = 3 ∨ i % 5 = 4 := by omega
    rw [Array.getElem?_eq_getElem h2] at g
    apply Option.some.inj
    rw [g]
    simp only [madeCells, Array.getElem_map, Array.getElem_range, List.getElem_replicate]
    rcases hm with h | h | h | h | h <;> (simp [h, Rq.cs])
end Go.Proofs.Ytgdhieffjflejaa
