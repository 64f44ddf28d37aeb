/- What asks do to a game, one behind the other, as plain functions; no program; no condition. -/
import Derived.Test.YtilldpoleiippaaGreatDoorDoLaw
import Derived.Test.YtilldpoleiippaaGreatDoorMA
set_option linter.unusedSimpArgs false
set_option linter.unusedVariables false
namespace Go.Proofs.YtilldpoleiippaaGreatDoor
open Go.RowKit

/-- The floor of a new game, and a new game. -/
def newG : Gm := ⟨[], [2, 1, 1, 1, 1, 2, 1, 1, 1, 1, 2, 1, 1, 1, 1, 2], [0, 0, 0, 0]⟩
def emptyG : Gm := ⟨[], [], []⟩
def foldG (g : Gm) (rs : List Rq) : Gm := rs.foldl (fun g r => (doG g r).1) g
def codesG (g : Gm) : List Rq → List Int
  | [] => []
  | r :: rs => (doG g r).2 :: codesG (doG g r).1 rs
/-- GameFold. -/
def gfold (rs : List Rq) : Gm := if rs.length ≤ 60 ∧ rs.all good = true then foldG newG rs else emptyG

theorem newG_ok : gameB newG = true := by decide
theorem good_or {r : Rq} (h : good r = true) : okB r.c r.n r.o r.x r.y = true ∨ r = ⟨0, 0, 0, 0, 0⟩ := by
  unfold good goodB at h
  by_cases hz : r = ⟨0, 0, 0, 0, 0⟩
  · exact .inr hz
  · have hn : eqR r.c r.n r.o r.x r.y 0 0 0 0 0 = false := eqR_ne (s := ⟨0, 0, 0, 0, 0⟩) hz
    rw [hn, Bool.false_or] at h
    exact .inl h
theorem foldG_snoc (g : Gm) (rs : List Rq) (r : Rq) : foldG g (rs ++ [r]) = (doG (foldG g rs) r).1 := by
  unfold foldG
  rw [List.foldl_append]
  rfl
theorem foldG_append (g : Gm) (rs ss : List Rq) : foldG g (rs ++ ss) = foldG (foldG g rs) ss := by
  unfold foldG
  rw [List.foldl_append]
theorem foldG_ok : ∀ (rs : List Rq) (g : Gm), gameB g = true → rs.all good = true → gameB (foldG g rs) = true
  | [], g, hg, _ => hg
  | r :: rs, g, hg, h => by
    rw [List.all_cons, Bool.and_eq_true] at h
    exact foldG_ok rs (doG g r).1 (doG_ok hg (good_or h.1)) h.2
theorem foldG_new_ok {rs : List Rq} (h : rs.all good = true) : gameB (foldG newG rs) = true := foldG_ok rs newG newG_ok h
theorem foldG_take_succ {rs : List Rq} {k : Nat} (g : Gm) (h : k < rs.length) : foldG g (rs.take (k + 1)) = (doG (foldG g (rs.take k)) rs[k]).1 := by
  rw [List.take_succ_eq_append_getElem h, foldG_snoc]
theorem all_takeG {rs : List Rq} (k : Nat) (h : rs.all good = true) : (rs.take k).all good = true := by
  rw [List.all_eq_true] at h ⊢
  exact fun z hz => h z (List.mem_of_mem_take hz)
theorem all_dropG {rs : List Rq} (k : Nat) (h : rs.all good = true) : (rs.drop k).all good = true := by
  rw [List.all_eq_true] at h ⊢
  exact fun z hz => h z (List.mem_of_mem_drop hz)
theorem all_getG {rs : List Rq} {k : Nat} (h : rs.all good = true) (hk : k < rs.length) : good rs[k] = true := List.all_eq_true.1 h _ (List.getElem_mem hk)
theorem gfold_yes {rs : List Rq} (h1 : rs.length ≤ 60) (h2 : rs.all good = true) : gfold rs = foldG newG rs := by unfold gfold; rw [if_pos ⟨h1, h2⟩]
theorem gfold_no {rs : List Rq} (h : ¬ (rs.length ≤ 60 ∧ rs.all good = true)) : gfold rs = emptyG := by unfold gfold; rw [if_neg h]
theorem gameDo_yes {g : Gm} {r : Rq} (hg : gameB g = true) (hr : good r = true) : gameDo g r (good r) = doG g r := by unfold gameDo; rw [hg, hr]; rfl
theorem gameDo_no {g : Gm} {r : Rq} (h : gameB g = false ∨ good r = false) : gameDo g r (good r) = (emptyG, 1) := by
  unfold gameDo
  rcases h with h | h <;> rw [h] <;> simp [emptyG]
theorem codesG_length : ∀ (rs : List Rq) (g : Gm), (codesG g rs).length = rs.length
  | [], _ => rfl
  | r :: rs, g => by simp [codesG, codesG_length rs]
theorem codesG_snoc : ∀ (rs : List Rq) (g : Gm) (r : Rq), codesG g (rs ++ [r]) = codesG g rs ++ [(doG (foldG g rs) r).2]
  | [], g, r => rfl
  | q :: rs, g, r => by simp only [List.cons_append, codesG, codesG_snoc rs]; rfl
theorem codesG_get {rs : List Rq} {g : Gm} {k : Nat} (h : k < rs.length) : (codesG g rs)[k]'(by rw [codesG_length]; exact h) = (doG (foldG g (rs.take k)) rs[k]).2 := by
  have h1 : rs = rs.take k ++ rs[k] :: rs.drop (k + 1) := by
    rw [← List.drop_eq_getElem_cons h, List.take_append_drop]
  have key : ∀ (xs : List Rq) (g : Gm) (r : Rq) (ys : List Rq), codesG g (xs ++ r :: ys) = codesG g xs ++ (doG (foldG g xs) r).2 :: codesG (doG (foldG g xs) r).1 ys := by
    intro xs
    induction xs with
    | nil => intro g r ys; rfl
    | cons x xs ih => intro g r ys; simp only [List.cons_append, codesG, ih]; rfl
  have h2 := key (rs.take k) g rs[k] (rs.drop (k + 1))
  rw [← h1] at h2
  have hl : (codesG g (rs.take k)).length = k := by rw [codesG_length, List.length_take]; omega
  simp only [h2]
  rw [List.getElem_append_right (by omega)]
  simp [hl]
end Go.Proofs.YtilldpoleiippaaGreatDoor
