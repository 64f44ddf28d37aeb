/- Keepers read by the reference (l5May, l5Took, l5Is, l5IsDone); no condition. -/
import Derived.Test.YtgdhieffjflejaaRob
set_option linter.unusedSimpArgs false
set_option linter.unusedVariables false
namespace Go.Proofs.Ytgdhieffjflejaa
open Go.RowKit Go.Joins

def mayB (r : Rk) (v : Int) : Bool := decide (r.view < v) || (v == r.view && !r.live)
set_option maxRecDepth 100000 in
set_option maxHeartbeats 2000000 in
theorem l5May_c (r : Rk) (v : Int) (w : World) :
    Calls Try.prog 106 #[.agg #[.int .i64 r.me, .int .i64 r.view, .bool r.live, .int .i64 r.nx, .slice r.ta r.tk.length r.tc, .slice r.ha r.hd.length r.hc, .slice r.da r.dn.length r.dc], .int .i64 v] w fun e w' => e = .returned (.bool (mayB r v)) ∧ Below w.heap.size w w' := by
  obtain ⟨q1, h1⟩ : ∃ q, decide (r.view < v) = q := ⟨_, rfl⟩
  obtain ⟨q2, h2⟩ : ∃ q, (v == r.view) = q := ⟨_, rfl⟩
  obtain ⟨q3, h3⟩ : ∃ q, r.live = q := ⟨_, rfl⟩
  have HX := Lib.hid (show mayB r v = (q1 || (q2 && !q3)) by rw [mayB, h1, h2, h3])
  cases q1 <;> cases q2 <;> cases q3 <;>
  (go_enter Try.func106, Try.ntmps106
   go_wp2_with fail
   go_ret
   exact ⟨ret_bool HX.out.symm, (by repeat' (first | with_reducible exact Below.refl _ _ | with_reducible assumption | with_reducible refine Below.alloc ?_ ?_ _ | with_reducible refine Below.drew ?_ | with_reducible refine Below.setCell ?_ ?_ _ | omega | (simp; omega) | (simp; done)))⟩)

set_option maxRecDepth 100000 in
set_option maxHeartbeats 2000000 in
theorem l5Is_w (r : Rk) (c : Cl) (w : World) (h : r.ok w) :
    Calls Try.prog 110 #[.agg #[.int .i64 r.me, .int .i64 r.view, .bool r.live, .int .i64 r.nx, .slice r.ta r.tk.length r.tc, .slice r.ha r.hd.length r.hc, .slice r.da r.dn.length r.dc], .agg #[.int .i64 c.s, .int .i64 c.v, .int .i64 c.r.c, .int .i64 c.r.n, .int .i64 c.r.o, .int .i64 c.r.x, .int .i64 c.r.y]] w fun e w' => ∃ b, e = .returned (.bool b) ∧ Below w.heap.size w w' := by
  have HM := Lib.hid h.2.1
  go_enter Try.func110, Try.ntmps110
  go_wp2_with fail
  obtain ⟨W, hW_, sW, x, y, kW⟩ := blocks2 w (.cells #[.int .i64 r.me, .int .i64 r.view, .bool r.live, .int .i64 r.nx, .slice r.ta r.tk.length r.tc, .slice r.ha r.hd.length r.hc, .slice r.da r.dn.length r.dc] 78) (.cells #[.int .i64 c.s, .int .i64 c.v, .int .i64 c.r.c, .int .i64 c.r.n, .int .i64 c.r.o, .int .i64 c.r.x, .int .i64 c.r.y] 62)
  rw [← hW_]
  clear hW_
  refine (l4Count_w _ r.hd 3 c W (HM.out.below kW)).mono ?_
  rintro e w1 ⟨t, rfl, k1⟩
  go_wp2_with fail
  go_ret
  exact ⟨_, rfl, below_next kW k1⟩

set_option maxRecDepth 100000 in
set_option maxHeartbeats 2000000 in
theorem l5IsDone_w (r : Rk) (s : Int) (w : World) (h : r.ok w) :
    Calls Try.prog 115 #[.agg #[.int .i64 r.me, .int .i64 r.view, .bool r.live, .int .i64 r.nx, .slice r.ta r.tk.length r.tc, .slice r.ha r.hd.length r.hc, .slice r.da r.dn.length r.dc], .int .i64 s] w fun e w' => ∃ b, e = .returned (.bool b) ∧ Below w.heap.size w w' := by
  obtain ⟨-, hlc, hm, hr⟩ := h.2.2.bounds
  obtain ⟨me, view, live, nx, ta, tc, tk, ha, hc, hd, da, dc, dn⟩ := r
  simp only at hlc hm hr ⊢
  have HR := Lib.hid hr
  clear hr h
  unfold maxLen at hm
  generalize hnn : dn.length = n at *
  go_enter Try.func115, Try.ntmps115
  go_upto_region 1 with fail
  obtain ⟨W, hW_, sW, x, kW⟩ := blocks1 w (.cells #[.int .i64 me, .int .i64 view, .bool live, .int .i64 nx, .slice ta tk.length tc, .slice ha hd.length hc, .slice da n dc] 78)
  rw [← hW_]
  clear hW_ sW
  have cx := cell_of_block x
  have fx := unfrozen_of_block x
  have lx := lt_of_block x
  go_wp2_with fail
  go_loopw [5] (fun i wr => ∃ k : Nat, k ≤ n ∧ i = .int .i64 k ∧ wr = W) (fun i _ => n - (intOf i).toNat)
  case atStart => exact ⟨0, Nat.zero_le _, rfl, rfl⟩
  case round =>
    obtain ⟨k, hk, rfl, rfl⟩ := hrel
    by_cases hlt : k < n
    · have hka : k < dn.length := by omega
      have hk1 : (k : Int) < (n : Int) := by omega
      have hk0 : (0 : Int) ≤ (k : Int) := by omega
      obtain ⟨b1, o1, rfl, hl1, hd0⟩ := seven_at HR.out k hka
      obtain ⟨d0, -⟩ := hd0 wr kW
      clear hd0
      generalize dn[k] = u at *
      obtain ⟨q1, h1⟩ : ∃ q, (u.s == s) = q := ⟨_, rfl⟩
      cases q1 with
      | true =>
        go_wp2_with fail
        go_ret
        exact ⟨_, rfl, kW⟩
      | false =>
        go_wp2_with fail
        refine ⟨⟨k + 1, by omega, by go_num, trivial⟩, ?_⟩
        simp [intOf]; omega
    · go_wp2_with fail
      go_ret
      exact ⟨_, rfl, kW⟩

set_option maxRecDepth 100000 in
set_option maxHeartbeats 2000000 in
theorem l5Took_w (r : Rk) (v s : Int) (w : World) (h : r.ok w) :
    Calls Try.prog 103 #[.agg #[.int .i64 r.me, .int .i64 r.view, .bool r.live, .int .i64 r.nx, .slice r.ta r.tk.length r.tc, .slice r.ha r.hd.length r.hc, .slice r.da r.dn.length r.dc], .int .i64 v, .int .i64 s] w fun e w' => ∃ (z : Rq) (b : Bool), e = .returned (.tuple #[.agg #[.int .i64 z.c, .int .i64 z.n, .int .i64 z.o, .int .i64 z.x, .int .i64 z.y], .bool b]) ∧ Below w.heap.size w w' := by
  obtain ⟨-, hlc, hm, hr⟩ := h.1.bounds
  obtain ⟨me, view, live, nx, ta, tc, tk, ha, hc, hd, da, dc, dn⟩ := r
  simp only at hlc hm hr ⊢
  have HR := Lib.hid hr
  clear hr h
  unfold maxLen at hm
  generalize hnn : tk.length = n at *
  go_enter Try.func103, Try.ntmps103
  go_upto_region 1 with fail
  obtain ⟨W, hW_, sW, x, y, kW⟩ := blocks2 w (.cells #[.int .i64 me, .int .i64 view, .bool live, .int .i64 nx, .slice ta n tc, .slice ha hd.length hc, .slice da dn.length dc] 78) (.cells #[.int .i64 0, .int .i64 0, .int .i64 0, .int .i64 0, .int .i64 0] 30)
  rw [← hW_]
  clear hW_ sW
  have cx := cell_of_block x
  have fx := unfrozen_of_block x
  have lx := lt_of_block x
  have cy := cell_of_block y
  have fy := unfrozen_of_block y
  have ly := lt_of_block y
  go_wp2_with fail
  go_loopw [8] (fun i wr => ∃ k : Nat, k ≤ n ∧ i = .int .i64 k ∧ wr = W) (fun i _ => n - (intOf i).toNat)
  case atStart => exact ⟨0, Nat.zero_le _, rfl, rfl⟩
  case round =>
    obtain ⟨k, hk, rfl, rfl⟩ := hrel
    by_cases hlt : k < n
    · have hka : k < tk.length := by omega
      have hk1 : (k : Int) < (n : Int) := by omega
      have hk0 : (0 : Int) ≤ (k : Int) := by omega
      obtain ⟨b1, o1, rfl, hl1, hd0⟩ := seven_at HR.out k hka
      obtain ⟨d0, d1, d2, d3, d4, d5, d6⟩ := hd0 wr kW
      clear hd0
      generalize tk[k] = u at *
      obtain ⟨q1, h1⟩ : ∃ q, (u.v == v) = q := ⟨_, rfl⟩
      obtain ⟨q2, h2⟩ : ∃ q, (u.s == s) = q := ⟨_, rfl⟩
      cases q1 with
      | true =>
        cases q2 with
        | true =>
          go_wp2_with fail
          refine bodyPost_ret (v := .tuple #[.agg #[.int .i64 u.r.c, .int .i64 u.r.n, .int .i64 u.r.o, .int .i64 u.r.x, .int .i64 u.r.y], .bool true]) (by simp [results, Try.results103, go_sem, cy]) rfl ?_
          exact ⟨u.r, true, rfl, (by repeat' (first | with_reducible exact Below.refl _ _ | with_reducible assumption | with_reducible refine Below.alloc ?_ ?_ _ | with_reducible refine Below.drew ?_ | with_reducible refine Below.setCell ?_ ?_ _ | omega | (simp; omega) | (simp; done)))⟩
        | false =>
          go_wp2_with fail
          refine ⟨⟨k + 1, by omega, by go_num, trivial⟩, ?_⟩
          simp [intOf]; omega
      | false =>
        go_wp2_with fail
        refine ⟨⟨k + 1, by omega, by go_num, trivial⟩, ?_⟩
        simp [intOf]; omega
    · go_wp2_with fail
      refine bodyPost_ret (v := .tuple #[.agg #[.int .i64 0, .int .i64 0, .int .i64 0, .int .i64 0, .int .i64 0], .bool false]) (by simp [results, Try.results103, go_sem, cy]) rfl ?_
      exact ⟨⟨0, 0, 0, 0, 0⟩, false, rfl, (by repeat' (first | with_reducible exact Below.refl _ _ | with_reducible assumption | with_reducible refine Below.alloc ?_ ?_ _ | with_reducible refine Below.drew ?_ | with_reducible refine Below.setCell ?_ ?_ _ | omega | (simp; omega) | (simp; done)))⟩
end Go.Proofs.Ytgdhieffjflejaa
