/- Plain laws of figures and boards; no program; no condition. -/
import Derived.Test.YtilldpoleiippaaGreatDoorOwnG
import Derived.Test.YtilldpoleiippaaGreatDoorGameOk
set_option linter.unusedSimpArgs false
set_option linter.unusedVariables false
namespace Go.Proofs.YtilldpoleiippaaGreatDoor
open Go.RowKit Go.Joins

def optI (o : Option Nat) : Int := match o with | some n => (n : Int) | none => -1
theorem figI_opt (es : List Rq) (c : Int) : figI es c = optI (figAt es c) := rfl
/-- Figures: numbers of places, gold. -/
def Places (es : List Rq) : Prop := ∀ e ∈ es, (0 ≤ e.n ∧ e.n ≤ 3) ∧ (0 ≤ e.o ∧ e.o ≤ 3) ∧ (0 ≤ e.x ∧ e.x ≤ 3) ∧ (0 ≤ e.y ∧ e.y ≤ 20)
theorem places_of {es : List Rq} (h : ∀ e ∈ es, FigOk e) : Places es := fun e he => by
  have := h e he
  exact ⟨this.2.1, this.2.2.1, this.2.2.2.1, this.2.2.2.2⟩
theorem okB_xy {c n o x y : Int} (h : okB c n o x y = true) : 1 ≤ c ∧ c ≤ 4 ∧ 1 ≤ n ∧ n ≤ 30 ∧ -1 ≤ x ∧ x ≤ 4 ∧ -1 ≤ y ∧ y ≤ 9 := by
  unfold okB at h
  simp only [Bool.and_eq_true, inB_iff] at h
  obtain ⟨⟨hc, hn⟩, h⟩ := h
  split at h
  · simp at h; omega
  · split at h
    · simp [inB] at h; omega
    · split at h
      · simp [inB] at h; omega
      · split at h
        · simp [inB] at h; omega
        · cases h
theorem while_takeG {α : Type} (p : α → Bool) : ∀ (es : List α) (k : Nat), k ≤ es.length → (∀ j (hj : j < es.length), j < k → p es[j] = true) → (∀ h : k < es.length, p es[k] = false) → es.takeWhile p = es.take k ∧ es.dropWhile p = es.drop k
  | [], k, _, _, _ => by simp
  | e :: es, 0, _, _, h => by
    have := h (by simp)
    simp only [List.getElem_cons_zero] at this
    simp [this]
  | e :: es, k + 1, hk, hb, h => by
    have h0 := hb 0 (by simp) (by omega)
    simp only [List.getElem_cons_zero] at h0
    have ih := while_takeG p es k (by simpa using hk) (fun j hj hjk => by have := hb (j + 1) (by simpa using hj) (by omega); simpa using this) (fun hk' => by have := h (by simpa using hk'); simpa using this)
    simp [h0, ih.1, ih.2]
theorem joinE_at {es : List Rq} {c : Int} {k : Nat} (hk : k ≤ es.length) (hb : ∀ j (hj : j < es.length), j < k → es[j].c < c) (hs : ∀ h : k < es.length, ¬ es[k].c < c) : joinE es c = (es.take k ++ [⟨c, c - 1, c - 1, 3, 0⟩]) ++ es.drop k := by
  obtain ⟨h1, h2⟩ := while_takeG (fun e : Rq => decide (e.c < c)) es k hk (fun j hj hjk => by simpa using hb j hj hjk) (fun h => by simpa using hs h)
  unfold joinE
  rw [h1, h2, List.append_assoc]
  rfl
theorem ents_le4 {es : List Rq} (h : EntsOk es) : es.length ≤ 4 := by
  have key : ∀ k (hk : k < es.length), ((k : Nat) : Int) + 1 ≤ es[k].c := by
    intro k
    induction k with
    | zero => intro hk; have := (h.1 _ (List.getElem_mem hk)).1; omega
    | succ k ih =>
      intro hk
      have h1 := ih (by omega)
      have h2 := (List.pairwise_iff_getElem.1 h.2) k (k + 1) (by omega) hk (by omega)
      omega
  by_cases h0 : es.length = 0
  · omega
  · have h1 := key (es.length - 1) (by omega)
    have h2 := (h.1 _ (List.getElem_mem (show es.length - 1 < es.length by omega))).1
    omega
end Go.Proofs.YtilldpoleiippaaGreatDoor
