/- Keepers as new: seven cells each, whose lists are empty; copies of them; condition: small sizes. -/
import Derived.Test.YtgdhieffjflejaaClone
import Derived.Test.YtgdhieffjflejaaRep
import Derived.Test.YtgdhieffjflejaaRowSet
import Derived.Test.YtgdhieffjflejaaQuiet
set_option linter.unusedSimpArgs false
set_option linter.unusedVariables false
namespace Go.Proofs.Ytgdhieffjflejaa
open Go.RowKit Go.Joins

/-- A keeper without lists. -/
structure Rp where
  me : Int
  view : Int
  live : Bool
  nx : Int
def Rp.cs (z : Rp) : List Value := [.int .i64 z.me, .int .i64 z.view, .bool z.live, .int .i64 z.nx, .slice none 0 0, .slice none 0 0, .slice none 0 0]
theorem seven_len : ∀ z : Rp, z.cs.length = 7 := fun _ => rfl
theorem seven_one : ∀ z : Rp, ∀ u ∈ z.cs, u.oneCell' = true := by
  intro z u hu
  simp [Rp.cs] at hu
  rcases hu with rfl | rfl | rfl | rfl | rfl | rfl | rfl <;> rfl
theorem infoRep : (Try.prog.info? 78).map (fun i => (i.zero, i.size, i.bytes)) = some (some (.agg #[.int .i64 0, .int .i64 0, .bool false, .int .i64 0, .slice none 0 0, .slice none 0 0, .slice none 0 0]), 7, 104) := by kernel_rfl
set_option maxRecDepth 100000 in
theorem eltRp : Elt Try.prog 48 78 7 104 Rp.cs := by
  obtain ⟨i, h1, h2, h3, h4⟩ := info_parts infoRep
  exact ⟨Try.underlying48, ⟨i, _, h1, h2, h3, h4, rfl⟩, by decide, fun _ => rfl, seven_one⟩

set_option maxRecDepth 100000 in
set_option maxHeartbeats 1000000 in
theorem slCloneRp_c (a : Option Addr) (n c : Nat) (zs : List Rp) (w : World) (h : IsSl w (.slice a n c) 7 Rp.cs zs) (hs : n ≤ 16777216) :
    Calls Try.prog 69 #[.slice a n c] w fun e w' => ∃ a' c', e = .returned (.slice a' n c') ∧ Row w' w.heap.size 78 a' c' 7 Rp.cs zs ∧ Below w.heap.size w w' := by
  obtain ⟨hn, hc, hm, hr⟩ := h.bounds
  cases a with
  | none =>
    have hz := hr.none_nil
    subst hz
    simp only [List.length_nil] at hn
    subst hn
    clear hs hc hm hr h
    have hnil := run_eqlNil _ _ none 0 c Try.underlying48
    go_enter Try.func69, Try.ntmps69
    go_wp2_with fail
    go_ret
    exact ⟨none, 0, rfl, Row.nil _ _ _ _ _ _, (by repeat' (first | with_reducible exact Below.refl _ _ | with_reducible assumption | with_reducible refine Below.alloc ?_ ?_ _ | with_reducible refine Below.drew ?_ | with_reducible refine Below.setCell ?_ ?_ _ | omega | (simp; omega) | (simp; done)))⟩
  | some ad =>
    have HR := Lib.hid hr
    clear hr h
    have hnil := run_eqlNil _ _ (some ad) n c Try.underlying48
    go_enter Try.func69, Try.ntmps69
    go_wp2_with (at_builtin; refine wpList_append_new w.heap.size rfl _ _ rfl eltRp rfl rfl (HR.out.below (by repeat' (first | with_reducible exact Below.refl _ _ | with_reducible assumption | with_reducible refine Below.alloc ?_ ?_ _ | with_reducible refine Below.drew ?_ | with_reducible refine Below.setCell ?_ ?_ _ | omega | (simp; omega) | (simp; done)))) hn (by simp only [maxLen]; omega) (by omega) (by simp <;> omega) ?_)
    intro a' c' w' q
    go_wp2_with fail
    go_ret
    exact ⟨a', c', rfl, q.row, below_next (by repeat' (first | with_reducible exact Below.refl _ _ | with_reducible assumption | with_reducible refine Below.alloc ?_ ?_ _ | with_reducible refine Below.drew ?_ | with_reducible refine Below.setCell ?_ ?_ _ | omega | (simp; omega) | (simp; done))) q.below⟩
set_option maxHeartbeats 1000000 in
theorem slClipRp_c (a : Option Addr) (n c : Nat) (w : World) (hc : n ≤ c) (hm : c ≤ maxLen) :
    Calls Try.prog 68 #[.slice a n c] w fun e w' => e = .returned (.slice a n n) ∧ w = w' := by
  go_enter Try.func68, Try.ntmps68
  go_wp2_with fail
  go_ret
  exact ⟨rfl, rfl⟩
set_option maxHeartbeats 1000000 in
theorem cloneRp_c (a : Option Addr) (n c : Nat) (zs : List Rp) (w : World) (h : IsSl w (.slice a n c) 7 Rp.cs zs) (hs : n ≤ 16777216) :
    Calls Try.prog 46 #[.slice a n c] w (Cloned 78 7 n Rp.cs zs w) := by
  have hn := h.bounds.1
  have H := Lib.hid h
  clear h
  go_enter Try.func46, Try.ntmps46
  go_wp2_with fail
  refine (slCloneRp_c a n c zs _ H.out hs).mono ?_
  rintro e w1 ⟨a1, c1, rfl, r1, k1⟩
  have hl := r1.len
  have hmx := r1.max
  rw [hn] at hl
  have R1 := Lib.hid r1
  clear r1
  go_wp2_with fail
  refine (slClipRp_c a1 n c1 _ hl hmx).mono ?_
  rintro e w2 ⟨rfl, rfl⟩
  have R2 := R1.out.clip
  rw [hn] at R2
  have R3 := Lib.hid R2
  clear R2
  go_wp2_with fail
  go_ret
  exact ⟨a1, rfl, R3.out, k1⟩
end Go.Proofs.Ytgdhieffjflejaa
