/- When a game is ok, as a plain function; no program; no condition. -/
import Derived.Test.YtofedboeggdkaaaSl
namespace Go.Proofs.Ytofedboeggdkaaa
open Go.RowKit

/-- The figure number j; its client's number; that of the one ahead of it. -/
def entN (es : List Rq) (j : Nat) : Rq := es.getD j ⟨0, 0, 0, 0, 0⟩
def prevC (es : List Rq) (j : Nat) : Int := if j = 0 then 0 else (entN es (j - 1)).c
/-- A figure, behind client L. -/
def figB (L : Int) (e : Rq) : Bool := inB e.c (L + 1) 4 && (inB e.n 0 3 && inB e.o 0 3) && inB e.x 0 3 && inB e.y 0 20
def entAt (es : List Rq) (j : Nat) : Bool := figB (prevC es j) (entN es j)
def entsB (es : List Rq) : Bool := (List.range es.length).all (entAt es)
def golds (es : List Rq) : Int := (es.map Rq.y).sum
def gameB (g : Gm) : Bool := entsB g.es && g.fl.all (fun n => inB n 0 20) && g.la.all (fun n => inB n 0 30) && (g.fl.length == 16) && (g.la.length == 4) && (golds g.es + g.fl.sum == 20)

theorem entsB_iff (es : List Rq) : entsB es = true ↔ ∀ j, j < es.length → entAt es j = true := by
  unfold entsB
  rw [List.all_eq_true]
  simp
theorem entsB_bad {es : List Rq} {k : Nat} (h : k < es.length) (hb : entAt es k = false) : entsB es = false := by
  rw [← Bool.not_eq_true, entsB_iff]
  intro hh
  rw [hh k h] at hb
  cases hb
theorem all_bad {α : Type} {p : α → Bool} {zs : List α} {k : Nat} (h : k < zs.length) (hb : p zs[k] = false) : zs.all p = false := by
  rw [← Bool.not_eq_true, List.all_eq_true]
  intro hh
  rw [hh _ (List.getElem_mem h)] at hb
  cases hb
theorem all_good {α : Type} {p : α → Bool} {zs : List α} {k : Nat} (h : ∀ j (hj : j < zs.length), j < k → p zs[j] = true) (hk : zs.length ≤ k) : zs.all p = true := by
  rw [List.all_eq_true]
  intro z hz
  obtain ⟨j, hj, rfl⟩ := List.getElem_of_mem hz
  exact h j hj (by omega)

theorem entN_get {es : List Rq} {k : Nat} (h : k < es.length) : entN es k = es[k] := by
  unfold entN; rw [List.getD_eq_getElem?_getD, List.getElem?_eq_getElem h]; rfl
theorem golds_snoc {es : List Rq} {k : Nat} (h : k < es.length) : golds (es.take (k + 1)) = golds (es.take k) + (entN es k).y := by
  unfold golds
  rw [List.take_succ_eq_append_getElem h, entN_get h, List.map_append, List.sum_append, List.map_cons, List.map_nil, List.sum_cons, List.sum_nil, Int.add_zero]
theorem sum_snoc {zs : List Int} {k : Nat} (h : k < zs.length) : (zs.take (k + 1)).sum = (zs.take k).sum + zs[k] := by
  rw [List.take_succ_eq_append_getElem h, List.sum_append, List.sum_cons, List.sum_nil, Int.add_zero]
/-- A figure that is one: its numbers. -/
theorem figB_iff (L : Int) (e : Rq) : figB L e = true ↔ (L + 1 ≤ e.c ∧ e.c ≤ 4) ∧ (0 ≤ e.n ∧ e.n ≤ 3) ∧ (0 ≤ e.o ∧ e.o ≤ 3) ∧ (0 ≤ e.x ∧ e.x ≤ 3) ∧ (0 ≤ e.y ∧ e.y ≤ 20) := by
  unfold figB
  simp only [Bool.and_eq_true, inB_iff]
  constructor
  · rintro ⟨⟨⟨h1, h2, h3⟩, h4⟩, h5⟩; exact ⟨h1, h2, h3, h4, h5⟩
  · rintro ⟨h1, h2, h3, h4, h5⟩; exact ⟨⟨⟨h1, h2, h3⟩, h4⟩, h5⟩
/-- The gold of the first k figures, where they are ones. -/
theorem golds_bound {es : List Rq} {k : Nat} (hk : k ≤ es.length) (h : ∀ j, j < k → entAt es j = true) : 0 ≤ golds (es.take k) ∧ golds (es.take k) ≤ 20 * k := by
  induction k with
  | zero => simp [golds]
  | succ k ih =>
    obtain ⟨a, b⟩ := ih (by omega) (fun j hj => h j (by omega))
    have hk' := h k (by omega)
    have := (figB_iff _ _).1 hk'
    rw [golds_snoc (by omega)]
    omega
theorem sum_bound {zs : List Int} {k : Nat} (hk : k ≤ zs.length) (h : ∀ j (hj : j < zs.length), j < k → inB zs[j] 0 20 = true) : 0 ≤ (zs.take k).sum ∧ (zs.take k).sum ≤ 20 * k := by
  induction k with
  | zero => simp
  | succ k ih =>
    obtain ⟨a, b⟩ := ih (by omega) (fun j hj hjk => h j hj (by omega))
    have hk' := (inB_iff _ _ _).1 (h k (by omega) (by omega))
    rw [sum_snoc (by omega)]
    omega
/-- Behind a figure: the client's number is above naught. -/
theorem prev_bound {es : List Rq} {k : Nat} (h : ∀ j, j < k → entAt es j = true) : 0 ≤ prevC es k ∧ prevC es k ≤ 4 := by
  unfold prevC
  split
  · omega
  · have h1 := (figB_iff _ _).1 (h (k - 1) (by omega))
    induction k with
    | zero => omega
    | succ k ih =>
      simp only [Nat.add_sub_cancel] at h1 ⊢
      have h2 : 0 ≤ prevC es k := by
        unfold prevC
        split
        · omega
        · exact (ih (fun j hj => h j (by omega)) (by omega) ((figB_iff _ _).1 (h (k - 1) (by omega)))).1
      omega
end Go.Proofs.Ytofedboeggdkaaa
