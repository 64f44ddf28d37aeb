/- Contracts of clone at lists of figures, of numbers, of asks; condition: small sizes. -/
import Derived.Test.YtilldpoleiippaaGreatDoorMA
import Derived.Test.YtilldpoleiippaaGreatDoorArgsA
import Derived.Laws.Cover3
set_option linter.unusedSimpArgs false
set_option linter.unusedVariables false
namespace Go.Proofs.YtilldpoleiippaaGreatDoor
open Go.RowKit Go.Joins

/-- A copy in a block of its own, without room. -/
def Cloned {α : Type} (el k n : Nat) (R : α → List Value) (zs : List α) (w : World) (e : Ending) (w' : World) : Prop :=
  ∃ a', e = .returned (.slice a' n n) ∧ Row w' w.heap.size el a' n k R zs ∧ Below w.heap.size w w'
theorem run_eqlNil {P : Program} (t e : TypeId) (a : Option Addr) (l c : Nat) (h : P.underlying t = some (.slice e)) (w : World) : (binOp .eql t (.slice a l c) (.slice none 0 0)).run P w = .ok (.bool a.isNone) w := by
  simp [binOp, Go.run_equal_slice_nil w t e a l c h]


set_option maxRecDepth 100000 in
set_option maxHeartbeats 1000000 in
theorem slCloneEnt_c (a : Option Addr) (n c : Nat) (zs : List Rq) (w : World) (h : IsSl w (.slice a n c) 5 Rq.cs zs) (hs : n ≤ 16777216) :
    Calls Tryz.prog 40 #[.slice a n c] w fun e w' => ∃ a' c', e = .returned (.slice a' n c') ∧ Row w' w.heap.size 44 a' c' 5 Rq.cs zs ∧ Below w.heap.size w w' := by
  obtain ⟨hn, hc, hm, hr⟩ := h.bounds
  cases a with
  | none =>
    have hz := hr.none_nil
    subst hz
    simp only [List.length_nil] at hn
    subst hn
    clear hs hc hm hr h
    have hnil := run_eqlNil _ _ none 0 c Tryz.underlying24
    go_enter Tryz.func40, Tryz.ntmps40
    go_wp2_with fail
    go_ret
    exact ⟨none, 0, rfl, Row.nil _ _ _ _ _ _, (by repeat' (first | with_reducible exact Below.refl _ _ | with_reducible assumption | with_reducible refine Below.alloc ?_ ?_ _ | with_reducible refine Below.drew ?_ | with_reducible refine Below.setCell ?_ ?_ _ | omega | (simp; omega) | (simp; done)))⟩
  | some ad =>
    have HR := Lib.hid hr
    clear hr h
    have hnil := run_eqlNil _ _ (some ad) n c Tryz.underlying24
    go_enter Tryz.func40, Tryz.ntmps40
    go_wp2_with (at_builtin; refine wpList_append_new w.heap.size rfl _ _ rfl eltEnt rfl rfl (HR.out.below (by repeat' (first | with_reducible exact Below.refl _ _ | with_reducible assumption | with_reducible refine Below.alloc ?_ ?_ _ | with_reducible refine Below.drew ?_ | with_reducible refine Below.setCell ?_ ?_ _ | omega | (simp; omega) | (simp; done)))) hn (by simp only [maxLen]; omega) (by omega) (by simp <;> omega) ?_)
    intro a' c' w' q
    go_wp2_with fail
    go_ret
    exact ⟨a', c', rfl, q.row, below_next (by repeat' (first | with_reducible exact Below.refl _ _ | with_reducible assumption | with_reducible refine Below.alloc ?_ ?_ _ | with_reducible refine Below.drew ?_ | with_reducible refine Below.setCell ?_ ?_ _ | omega | (simp; omega) | (simp; done))) q.below⟩
set_option maxHeartbeats 1000000 in
theorem slClipEnt_c (a : Option Addr) (n c : Nat) (w : World) (hc : n ≤ c) (hm : c ≤ maxLen) :
    Calls Tryz.prog 39 #[.slice a n c] w fun e w' => e = .returned (.slice a n n) ∧ w = w' := by
  go_enter Tryz.func39, Tryz.ntmps39
  go_wp2_with fail
  go_ret
  exact ⟨rfl, rfl⟩
set_option maxHeartbeats 1000000 in
theorem cloneEnt_c (a : Option Addr) (n c : Nat) (zs : List Rq) (w : World) (h : IsSl w (.slice a n c) 5 Rq.cs zs) (hs : n ≤ 16777216) :
    Calls Tryz.prog 18 #[.slice a n c] w (Cloned 44 5 n Rq.cs zs w) := by
  have hn := h.bounds.1
  have H := Lib.hid h
  clear h
  go_enter Tryz.func18, Tryz.ntmps18
  go_wp2_with fail
  refine (slCloneEnt_c a n c zs _ H.out hs).mono ?_
  rintro e w1 ⟨a1, c1, rfl, r1, k1⟩
  have hl := r1.len
  have hmx := r1.max
  rw [hn] at hl
  have R1 := Lib.hid r1
  clear r1
  go_wp2_with fail
  refine (slClipEnt_c a1 n c1 _ hl hmx).mono ?_
  rintro e w2 ⟨rfl, rfl⟩
  have R2 := R1.out.clip
  rw [hn] at R2
  have R3 := Lib.hid R2
  clear R2
  go_wp2_with fail
  go_ret
  exact ⟨a1, rfl, R3.out, k1⟩

set_option maxRecDepth 100000 in
set_option maxHeartbeats 1000000 in
theorem slCloneint_c (a : Option Addr) (n c : Nat) (zs : List Int) (w : World) (h : IsSl w (.slice a n c) 1 intR zs) (hs : n ≤ 16777216) :
    Calls Tryz.prog 37 #[.slice a n c] w fun e w' => ∃ a' c', e = .returned (.slice a' n c') ∧ Row w' w.heap.size 3 a' c' 1 intR zs ∧ Below w.heap.size w w' := by
  obtain ⟨hn, hc, hm, hr⟩ := h.bounds
  cases a with
  | none =>
    have hz := hr.none_nil
    subst hz
    simp only [List.length_nil] at hn
    subst hn
    clear hs hc hm hr h
    have hnil := run_eqlNil _ _ none 0 c Tryz.underlying25
    go_enter Tryz.func37, Tryz.ntmps37
    go_wp2_with fail
    go_ret
    exact ⟨none, 0, rfl, Row.nil _ _ _ _ _ _, (by repeat' (first | with_reducible exact Below.refl _ _ | with_reducible assumption | with_reducible refine Below.alloc ?_ ?_ _ | with_reducible refine Below.drew ?_ | with_reducible refine Below.setCell ?_ ?_ _ | omega | (simp; omega) | (simp; done)))⟩
  | some ad =>
    have HR := Lib.hid hr
    clear hr h
    have hnil := run_eqlNil _ _ (some ad) n c Tryz.underlying25
    go_enter Tryz.func37, Tryz.ntmps37
    go_wp2_with (at_builtin; refine wpList_append_new w.heap.size rfl _ _ rfl eltInt rfl rfl (HR.out.below (by repeat' (first | with_reducible exact Below.refl _ _ | with_reducible assumption | with_reducible refine Below.alloc ?_ ?_ _ | with_reducible refine Below.drew ?_ | with_reducible refine Below.setCell ?_ ?_ _ | omega | (simp; omega) | (simp; done)))) hn (by simp only [maxLen]; omega) (by omega) (by simp <;> omega) ?_)
    intro a' c' w' q
    go_wp2_with fail
    go_ret
    exact ⟨a', c', rfl, q.row, below_next (by repeat' (first | with_reducible exact Below.refl _ _ | with_reducible assumption | with_reducible refine Below.alloc ?_ ?_ _ | with_reducible refine Below.drew ?_ | with_reducible refine Below.setCell ?_ ?_ _ | omega | (simp; omega) | (simp; done))) q.below⟩
set_option maxHeartbeats 1000000 in
theorem slClipint_c (a : Option Addr) (n c : Nat) (w : World) (hc : n ≤ c) (hm : c ≤ maxLen) :
    Calls Tryz.prog 36 #[.slice a n c] w fun e w' => e = .returned (.slice a n n) ∧ w = w' := by
  go_enter Tryz.func36, Tryz.ntmps36
  go_wp2_with fail
  go_ret
  exact ⟨rfl, rfl⟩
set_option maxHeartbeats 1000000 in
theorem cloneint_c (a : Option Addr) (n c : Nat) (zs : List Int) (w : World) (h : IsSl w (.slice a n c) 1 intR zs) (hs : n ≤ 16777216) :
    Calls Tryz.prog 16 #[.slice a n c] w (Cloned 3 1 n intR zs w) := by
  have hn := h.bounds.1
  have H := Lib.hid h
  clear h
  go_enter Tryz.func16, Tryz.ntmps16
  go_wp2_with fail
  refine (slCloneint_c a n c zs _ H.out hs).mono ?_
  rintro e w1 ⟨a1, c1, rfl, r1, k1⟩
  have hl := r1.len
  have hmx := r1.max
  rw [hn] at hl
  have R1 := Lib.hid r1
  clear r1
  go_wp2_with fail
  refine (slClipint_c a1 n c1 _ hl hmx).mono ?_
  rintro e w2 ⟨rfl, rfl⟩
  have R2 := R1.out.clip
  rw [hn] at R2
  have R3 := Lib.hid R2
  clear R2
  go_wp2_with fail
  go_ret
  exact ⟨a1, rfl, R3.out, k1⟩

end Go.Proofs.YtilldpoleiippaaGreatDoor
