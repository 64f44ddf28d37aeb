/- Rows of a ledger in lists of the program's own: appended to, cloned; condition: small sizes. -/
import Derived.Test.YtbfnilfkhonpaaaDoorClone
import Derived.Test.YtbfnilfkhonpaaaDoorEntry
namespace Go.Proofs.YtbfnilfkhonpaaaDoor
open Go.RowKit Go.Joins

theorem six_one : ∀ z : En, ∀ u ∈ z.cs, u.oneCell' = true := by
  intro z u hu
  simp [En.cs] at hu
  rcases hu with rfl | rfl | rfl | rfl | rfl | rfl <;> rfl
set_option maxRecDepth 100000 in
theorem eltEntry : Elt Tryd.prog 22 44 6 48 En.cs := by
  obtain ⟨i, h1, h2, h3, h4⟩ := info_parts infoEntry
  exact ⟨Tryd.underlying22, ⟨i, _, h1, h2, h3, h4, rfl⟩, by decide, fun _ => rfl, six_one⟩
theorem rowsAt_oneE (w : World) (z : En) (t : TypeId) : RowsAt (w.alloc (.cells #[.int .i64 z.r.c, .int .i64 z.r.n, .int .i64 z.r.o, .int .i64 z.r.x, .int .i64 z.r.y, .int .i64 z.s] t)) (some ⟨w.heap.size, 0, none⟩) 6 En.cs [z] :=
  rows_of_block (t := t) (fr := (0, 0)) six_len (heap_alloc_new w (.cells #[.int .i64 z.r.c, .int .i64 z.r.n, .int .i64 z.r.o, .int .i64 z.r.x, .int .i64 z.r.y, .int .i64 z.s] t))

set_option maxRecDepth 100000 in
set_option maxHeartbeats 1000000 in
theorem slCloneEntry_c (a : Option Addr) (n c : Nat) (zs : List En) (w : World) (h : IsSl w (.slice a n c) 6 En.cs zs) (hs : n ≤ 16777216) :
    Calls Tryd.prog 93 #[.slice a n c] w fun e w' => ∃ a' c', e = .returned (.slice a' n c') ∧ Row w' w.heap.size 44 a' c' 6 En.cs zs ∧ Below w.heap.size w w' := by
  obtain ⟨hn, hc, hm, hr⟩ := h.bounds
  cases a with
  | none =>
    have hz := hr.none_nil
    subst hz
    simp only [List.length_nil] at hn
    subst hn
    clear hs hc hm hr h
    have hnil := run_eqlNil _ _ none 0 c Tryd.underlying22
    go_enter Tryd.func93, Tryd.ntmps93
    go_wp2_with fail
    go_ret
    exact ⟨none, 0, rfl, Row.nil _ _ _ _ _ _, (by repeat' (first | with_reducible exact Below.refl _ _ | with_reducible assumption | with_reducible refine Below.alloc ?_ ?_ _ | with_reducible refine Below.drew ?_ | with_reducible refine Below.setCell ?_ ?_ _ | omega | (simp; omega) | (simp; done)))⟩
  | some ad =>
    have HR := Lib.hid hr
    clear hr h
    have hnil := run_eqlNil _ _ (some ad) n c Tryd.underlying22
    go_enter Tryd.func93, Tryd.ntmps93
    go_wp2_with (at_builtin; refine wpList_append_new w.heap.size rfl _ _ rfl eltEntry rfl rfl (HR.out.below (by repeat' (first | with_reducible exact Below.refl _ _ | with_reducible assumption | with_reducible refine Below.alloc ?_ ?_ _ | with_reducible refine Below.drew ?_ | with_reducible refine Below.setCell ?_ ?_ _ | omega | (simp; omega) | (simp; done)))) hn (by simp only [maxLen]; omega) (by omega) (by simp <;> omega) ?_)
    intro a' c' w' q
    go_wp2_with fail
    go_ret
    exact ⟨a', c', rfl, q.row, below_next (by repeat' (first | with_reducible exact Below.refl _ _ | with_reducible assumption | with_reducible refine Below.alloc ?_ ?_ _ | with_reducible refine Below.drew ?_ | with_reducible refine Below.setCell ?_ ?_ _ | omega | (simp; omega) | (simp; done))) q.below⟩
set_option maxHeartbeats 1000000 in
theorem slClipEntry_c (a : Option Addr) (n c : Nat) (w : World) (hc : n ≤ c) (hm : c ≤ maxLen) :
    Calls Tryd.prog 50 #[.slice a n c] w fun e w' => e = .returned (.slice a n n) ∧ w = w' := by
  go_enter Tryd.func50, Tryd.ntmps50
  go_wp2_with fail
  go_ret
  exact ⟨rfl, rfl⟩
set_option maxHeartbeats 1000000 in
theorem cloneEntry_c (a : Option Addr) (n c : Nat) (zs : List En) (w : World) (h : IsSl w (.slice a n c) 6 En.cs zs) (hs : n ≤ 16777216) :
    Calls Tryd.prog 72 #[.slice a n c] w (Cloned 44 6 n En.cs zs w) := by
  have hn := h.bounds.1
  have H := Lib.hid h
  clear h
  go_enter Tryd.func72, Tryd.ntmps72
  go_wp2_with fail
  refine (slCloneEntry_c a n c zs _ H.out hs).mono ?_
  rintro e w1 ⟨a1, c1, rfl, r1, k1⟩
  have hl := r1.len
  have hmx := r1.max
  rw [hn] at hl
  have R1 := Lib.hid r1
  clear r1
  go_wp2_with fail
  refine (slClipEntry_c a1 n c1 _ hl hmx).mono ?_
  rintro e w2 ⟨rfl, rfl⟩
  have R2 := R1.out.clip
  rw [hn] at R2
  have R3 := Lib.hid R2
  clear R2
  go_wp2_with fail
  go_ret
  exact ⟨a1, rfl, R3.out, k1⟩
end Go.Proofs.YtbfnilfkhonpaaaDoor
