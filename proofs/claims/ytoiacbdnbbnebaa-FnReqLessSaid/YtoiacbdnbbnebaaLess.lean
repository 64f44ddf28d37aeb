/- Contracts of the order on requests (cmp.Compare, cmp.Or, ReqLess and its reference); no condition. -/
import Derived.Test.YtoiacbdnbbnebaaReq
import Derived.StillTailTactics
import Derived.LoopTactic
namespace Go.Proofs.Ytoiacbdnbbnebaa
open Go.RowKit

def cmpI (a b : Int) : Int := if a < b then -1 else if b < a then 1 else 0
def orI : List Int → Int
  | [] => 0
  | x :: r => if x = 0 then orI r else x
/-- The order: by client, number, operation, x, y. -/
def lessB (r s : Rq) : Bool :=
  if r.c ≠ s.c then decide (r.c < s.c) else if r.n ≠ s.n then decide (r.n < s.n) else if r.o ≠ s.o then decide (r.o < s.o) else if r.x ≠ s.x then decide (r.x < s.x) else decide (r.y < s.y)

theorem orI_drop (zs : List Int) (k : Nat) (h : k < zs.length) : orI (zs.drop k) = if zs[k] = 0 then orI (zs.drop (k + 1)) else zs[k] := by
  rw [List.drop_eq_getElem_cons h]; rfl

theorem less_or (r s : Rq) : decide (orI [cmpI r.c s.c, cmpI r.n s.n, cmpI r.o s.o, cmpI r.x s.x, cmpI r.y s.y] < 0) = lessB r s := by
  have h : ∀ (a b : Int) (l : List Int), decide (orI (cmpI a b :: l) < 0) = if a ≠ b then decide (a < b) else decide (orI l < 0) := by
    intro a b l
    simp only [orI, cmpI]
    by_cases h1 : a < b
    · simp [h1, show a ≠ b by omega]
    · by_cases h2 : b < a
      · simp [h1, h2, show a ≠ b by omega]
      · obtain rfl : a = b := by omega
        simp
  simp only [h, lessB]
  by_cases h5 : r.y = s.y <;> simp [h5, orI]

set_option maxHeartbeats 400000 in
theorem Compare_c (a b : Int) (w : World) :
    Calls Try.prog 57 #[.int .i64 a, .int .i64 b] w fun e w' => e = .returned (.int .i64 (cmpI a b)) ∧ w = w' := by
  rcases Int.lt_trichotomy a b with h | h | h
  · go_enter Try.func57, Try.ntmps57
    go_wp2
    go_ret
    exact ⟨ret_int (by simp [cmpI, h]), rfl⟩
  · subst h
    go_enter Try.func57, Try.ntmps57
    go_wp2
    go_ret
    exact ⟨ret_int (by simp [cmpI]), rfl⟩
  · go_enter Try.func57, Try.ntmps57
    go_wp2
    go_ret
    exact ⟨ret_int (by have h' : ¬ a < b := by omega
                       simp [cmpI, h, h']), rfl⟩

set_option maxHeartbeats 400000 in
theorem Or_c (g n : Nat) (zs : List Int) (w : World) (hn : zs.length = n) (hs : n ≤ 1000) (hc : ∀ i, i < n → w.cell? ⟨g, i, none⟩ = some (.int .i64 (zs.getD i 0))) :
    Calls Try.prog 56 #[.slice (some ⟨g, 0, none⟩) n n] w fun e w' => e = .returned (.int .i64 (orI zs)) ∧ w = w' := by
  have HC := Lib.hid hc
  have HN := Lib.hid hn
  clear hc hn
  go_enter Try.func56, Try.ntmps56
  go_wp2
  go_loop [8] (fun i => ∃ k : Nat, k ≤ n ∧ i = .int .i64 k ∧ orI (zs.drop k) = orI zs) (fun i => n - (intOf i).toNat)
  case atStart => exact ⟨0, Nat.zero_le _, rfl, rfl⟩
  case round =>
    obtain ⟨k, hk, rfl, hrest⟩ := hrel
    have HR := Lib.hid hrest
    clear hrest
    by_cases hlt : k < n
    · have hcell := HC.out k hlt
      by_cases h0 : zs.getD k 0 = 0
      · rw [h0] at hcell
        have H0 := Lib.hid h0
        clear h0
        go_wp2
        go_round
        case rel =>
          refine ⟨k + 1, by omega, by go_num, ?_⟩
          have hl : k < zs.length := by rw [HN.out]; exact hlt
          have := orI_drop zs k hl
          have h0 := H0.out
          rw [List.getD_eq_getElem?_getD, List.getElem?_eq_getElem hl] at h0
          simp only [Option.getD_some] at h0
          rw [if_pos h0] at this
          rw [← this]
          exact HR.out
        case measure => simp [intOf]; omega
      · have hne : (zs.getD k 0 != 0) = true := by simpa using h0
        have H0 := Lib.hid h0
        clear h0
        generalize hz : zs.getD k 0 = z at *
        have HZ := Lib.hid hz
        clear hz
        go_wp2
        go_ret
        refine ⟨ret_int ?_, rfl⟩
        have hl : k < zs.length := by rw [HN.out]; exact hlt
        have := orI_drop zs k hl
        have h0 := H0.out
        have hz := HZ.out
        rw [List.getD_eq_getElem?_getD, List.getElem?_eq_getElem hl] at hz
        simp only [Option.getD_some] at hz
        rw [hz, if_neg h0, HR.out] at this
        exact this.symm
    · go_wp2
      go_ret
      refine ⟨ret_int ?_, rfl⟩
      have := HR.out
      rw [List.drop_eq_nil_of_le (by rw [HN.out]; omega)] at this
      exact this

set_option maxHeartbeats 1000000 in
theorem l1Less_c (r s : Rq) (w : World) :
    Calls Try.prog 55 #[.agg #[.int .i64 r.c, .int .i64 r.n, .int .i64 r.o, .int .i64 r.x, .int .i64 r.y], .agg #[.int .i64 s.c, .int .i64 s.n, .int .i64 s.o, .int .i64 s.x, .int .i64 s.y]] w fun e w' => e = .returned (.bool (lessB r s)) ∧ Below w.heap.size w w' := by
  go_enter Try.func55, Try.ntmps55
  go_wp2
  all_goals go_ret
  all_goals refine ⟨ret_bool ?_, (by repeat' (first | with_reducible exact Below.refl _ _ | with_reducible assumption | with_reducible refine Below.alloc ?_ ?_ _ | with_reducible refine Below.drew ?_ | with_reducible refine Below.setCell ?_ ?_ _ | omega | (simp; omega) | (simp; done)))⟩
  all_goals simp_all [lessB]

set_option maxHeartbeats 400000 in
theorem sReqLess_c (r s : Rq) (w : World) :
    Calls Try.prog 23 #[.agg #[.int .i64 r.c, .int .i64 r.n, .int .i64 r.o, .int .i64 r.x, .int .i64 r.y], .agg #[.int .i64 s.c, .int .i64 s.n, .int .i64 s.o, .int .i64 s.x, .int .i64 s.y]] w fun e w' => e = .returned (.bool (lessB r s)) ∧ Below w.heap.size w w' := by
  go_enter Try.func23, Try.ntmps23
  go_wp2_with (go_at_call 55; refine (l1Less_c r s _).mono ?_; rintro e w' ⟨rfl, hb⟩)
  go_ret
  exact ⟨rfl, Below.trans (by repeat' (first | with_reducible exact Below.refl _ _ | with_reducible assumption | with_reducible refine Below.alloc ?_ ?_ _ | with_reducible refine Below.drew ?_ | with_reducible refine Below.setCell ?_ ?_ _ | omega | (simp; omega) | (simp; done))) (hb.mono (by first | omega | (simp; omega) | (simp; done)))⟩

set_option maxRecDepth 100000 in
set_option maxHeartbeats 1000000 in
theorem ReqLess_c (r s : Rq) (w : World) :
    Calls Try.prog 24 #[.agg #[.int .i64 r.c, .int .i64 r.n, .int .i64 r.o, .int .i64 r.x, .int .i64 r.y], .agg #[.int .i64 s.c, .int .i64 s.n, .int .i64 s.o, .int .i64 s.x, .int .i64 s.y]] w fun e w' => e = .returned (.bool (lessB r s)) ∧ Below w.heap.size w w' := by
  go_enter Try.func24, Try.ntmps24
  go_wp2_with fail
  obtain ⟨W, hW⟩ : ∃ W, W = (w.alloc (Obj.cells #[Value.int IntKind.i64 r.c, Value.int IntKind.i64 r.n, Value.int IntKind.i64 r.o, Value.int IntKind.i64 r.x, Value.int IntKind.i64 r.y] 33)).alloc
      (Obj.cells #[Value.int IntKind.i64 s.c, Value.int IntKind.i64 s.n, Value.int IntKind.i64 s.o, Value.int IntKind.i64 s.x, Value.int IntKind.i64 s.y] 33) := ⟨_, rfl⟩
  rw [← hW]
  have hb : Below w.heap.size w W := by rw [hW]; exact (by repeat' (first | with_reducible exact Below.refl _ _ | with_reducible assumption | with_reducible refine Below.alloc ?_ ?_ _ | with_reducible refine Below.drew ?_ | with_reducible refine Below.setCell ?_ ?_ _ | omega | (simp; omega) | (simp; done)))
  have hsz : w.heap.size + 2 ≤ W.heap.size := by rw [hW]; simp
  have c0 : W.cell? ⟨w.heap.size, 0, none⟩ = some (.int .i64 r.c) := by rw [hW]; go_simp
  have c1 : W.cell? ⟨w.heap.size, 1, none⟩ = some (.int .i64 r.n) := by rw [hW]; go_simp
  have c2 : W.cell? ⟨w.heap.size, 2, none⟩ = some (.int .i64 r.o) := by rw [hW]; go_simp
  have c3 : W.cell? ⟨w.heap.size, 3, none⟩ = some (.int .i64 r.x) := by rw [hW]; go_simp
  have c4 : W.cell? ⟨w.heap.size, 4, none⟩ = some (.int .i64 r.y) := by rw [hW]; go_simp
  have d0 : W.cell? ⟨w.heap.size + 1, 0, none⟩ = some (.int .i64 s.c) := by rw [hW]; go_simp
  have d1 : W.cell? ⟨w.heap.size + 1, 1, none⟩ = some (.int .i64 s.n) := by rw [hW]; go_simp
  have d2 : W.cell? ⟨w.heap.size + 1, 2, none⟩ = some (.int .i64 s.o) := by rw [hW]; go_simp
  have d3 : W.cell? ⟨w.heap.size + 1, 3, none⟩ = some (.int .i64 s.x) := by rw [hW]; go_simp
  have d4 : W.cell? ⟨w.heap.size + 1, 4, none⟩ = some (.int .i64 s.y) := by rw [hW]; go_simp
  clear hW
  go_region_held3 (fun w' => (∀ b o, b < w.heap.size + 2 → w'.cell? ⟨b, o, none⟩ = W.cell? ⟨b, o, none⟩) ∧ Below W.heap.size W w')
    (first | exact Kept.start _ | assumption | exact Kept.alloc hsz _ (by assumption))
    (first
    | (go_at_call 57; refine (Compare_c _ _ _).mono ?_; rintro e w1 ⟨rfl, rfl⟩)
    | (go_at_call 56; refine (Or_c _ 5 [cmpI r.c s.c, cmpI r.n s.n, cmpI r.o s.o, cmpI r.x s.x, cmpI r.y s.y] _ rfl (by decide) ?_).mono ?_; (intro i hi; match i, hi with | 0, _ => go_simp | 1, _ => go_simp | 2, _ => go_simp | 3, _ => go_simp | 4, _ => go_simp); rintro e w1 ⟨rfl, rfl⟩))
  go_wp2_with fail
  go_ret
  exact ⟨ret_bool (less_or r s), below_next hb (‹_ ∧ Below W.heap.size W _›).2⟩
end Go.Proofs.Ytoiacbdnbbnebaa
