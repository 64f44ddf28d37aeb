/- The walks of the laws FnExactReqOk and FnExactReqLess; no condition. -/
import Derived.Test.YtoiacbdnbbnebaaLess
import Derived.Test.YtoiacbdnbbnebaaOpen
namespace Go.Proofs.Ytoiacbdnbbnebaa
open Go.RowKit

set_option maxHeartbeats 400000 in
theorem fnExactReqOk.walk (v0 : Value) (r : Rq) (w : World) (h0 : IsRq v0 r) :
    Calls Try.prog 7 #[v0] w fun e w' => e = .returned (.bool true) ∧ Below w.heap.size w w' := by
  unfold IsRq at h0
  subst h0
  go_enter Try.func7, Try.ntmps7
  go_wp2_with fail
  obtain ⟨W, hW⟩ : ∃ W, W = w.alloc (Obj.cells #[Value.int IntKind.i64 r.c, Value.int IntKind.i64 r.n, Value.int IntKind.i64 r.o, Value.int IntKind.i64 r.x, Value.int IntKind.i64 r.y] 31) := ⟨_, rfl⟩
  rw [← hW]
  have hb : Below w.heap.size w W := by rw [hW]; go_grown
  have hsz : w.heap.size + 1 ≤ W.heap.size := by rw [hW]; simp
  have c0 : W.cell? ⟨w.heap.size, 0, none⟩ = some (.int .i64 r.c) := by rw [hW]; go_simp
  have c1 : W.cell? ⟨w.heap.size, 1, none⟩ = some (.int .i64 r.n) := by rw [hW]; go_simp
  have c2 : W.cell? ⟨w.heap.size, 2, none⟩ = some (.int .i64 r.o) := by rw [hW]; go_simp
  have c3 : W.cell? ⟨w.heap.size, 3, none⟩ = some (.int .i64 r.x) := by rw [hW]; go_simp
  have c4 : W.cell? ⟨w.heap.size, 4, none⟩ = some (.int .i64 r.y) := by rw [hW]; go_simp
  clear hW
  have hk := Kept.refl (B := w.heap.size + 1) W
  go_wp2_with (first
    | (go_at_call 21; refine (toReq_c _ _ _ _ _ _).mono ?_; rintro e w1 ⟨rfl, k1⟩; replace hk := Kept.next hsz hk k1; clear k1)
    | (go_at_call 20; refine (sReqOk_c _ _ _ _ _ _).mono ?_; rintro e w1 ⟨rfl, k1⟩; replace hk := Kept.next hsz hk k1; clear k1)
    | (go_at_call 22; refine (ReqOk_c _ _ _ _ _ _).mono ?_; rintro e w1 ⟨rfl, k1⟩; replace hk := Kept.next hsz hk k1; clear k1))
  go_ret
  exact ⟨rfl, below_next hb hk.2⟩

set_option maxRecDepth 100000 in
set_option maxHeartbeats 1000000 in
theorem fnExactReqLess.walk (v0 : Value) (r : Rq) (v1 : Value) (s : Rq) (w : World) (h0 : IsRq v0 r) (h1 : IsRq v1 s) :
    Calls Try.prog 8 #[v0, v1] w fun e w' => e = .returned (.bool true) ∧ Below w.heap.size w w' := by
  unfold IsRq at h0 h1
  subst h0 h1
  go_enter Try.func8, Try.ntmps8
  go_wp2_with fail
  obtain ⟨W, hW⟩ : ∃ W, W = (w.alloc (Obj.cells #[Value.int IntKind.i64 r.c, Value.int IntKind.i64 r.n, Value.int IntKind.i64 r.o, Value.int IntKind.i64 r.x, Value.int IntKind.i64 r.y] 31)).alloc
      (Obj.cells #[Value.int IntKind.i64 s.c, Value.int IntKind.i64 s.n, Value.int IntKind.i64 s.o, Value.int IntKind.i64 s.x, Value.int IntKind.i64 s.y] 31) := ⟨_, rfl⟩
  rw [← hW]
  have hb : Below w.heap.size w W := by rw [hW]; go_grown
  have hsz : w.heap.size + 2 ≤ W.heap.size := by rw [hW]; simp
  have c0 : W.cell? ⟨w.heap.size, 0, none⟩ = some (.int .i64 r.c) := by rw [hW]; go_simp
  have c1 : W.cell? ⟨w.heap.size, 1, none⟩ = some (.int .i64 r.n) := by rw [hW]; go_simp
  have c2 : W.cell? ⟨w.heap.size, 2, none⟩ = some (.int .i64 r.o) := by rw [hW]; go_simp
  have c3 : W.cell? ⟨w.heap.size, 3, none⟩ = some (.int .i64 r.x) := by rw [hW]; go_simp
  have c4 : W.cell? ⟨w.heap.size, 4, none⟩ = some (.int .i64 r.y) := by rw [hW]; go_simp
  have d0 : W.cell? ⟨w.heap.size + 1, 0, none⟩ = some (.int .i64 s.c) := by rw [hW]; go_simp
  have d1 : W.cell? ⟨w.heap.size + 1, 1, none⟩ = some (.int .i64 s.n) := by rw [hW]; go_simp
  have d2 : W.cell? ⟨w.heap.size + 1, 2, none⟩ = some (.int .i64 s.o) := by rw [hW]; go_simp
  have d3 : W.cell? ⟨w.heap.size + 1, 3, none⟩ = some (.int .i64 s.x) := by rw [hW]; go_simp
  have d4 : W.cell? ⟨w.heap.size + 1, 4, none⟩ = some (.int .i64 s.y) := by rw [hW]; go_simp
  clear hW
  go_region_held3 (fun w' => (∀ b o, b < w.heap.size + 2 → w'.cell? ⟨b, o, none⟩ = W.cell? ⟨b, o, none⟩) ∧ Below W.heap.size W w')
    (first | exact Kept.start _ | exact Kept.next hsz (by assumption) hb1)
    (first
    | (go_at_call 21; refine (toReq_c _ _ _ _ _ _).mono ?_; rintro e w1 ⟨rfl, hb1⟩)
    | (go_at_call 23; refine (sReqLess_c r s _).mono ?_; rintro e w1 ⟨rfl, hb1⟩))
  go_wp2_with fail
  go_region_held3 (fun w' => (∀ b o, b < w.heap.size + 2 → w'.cell? ⟨b, o, none⟩ = W.cell? ⟨b, o, none⟩) ∧ Below W.heap.size W w')
    (first | exact Kept.drew (by assumption) | exact Kept.next hsz (by assumption) hb1)
    (first
    | (go_at_call 21; refine (toReq_c _ _ _ _ _ _).mono ?_; rintro e w1 ⟨rfl, hb1⟩)
    | (go_at_call 24; refine (ReqLess_c r s _).mono ?_; rintro e w1 ⟨rfl, hb1⟩))
  go_wp2
  go_ret
  exact ⟨rfl, below_next hb (‹_ ∧ Below W.heap.size W _›).2⟩
end Go.Proofs.Ytoiacbdnbbnebaa
