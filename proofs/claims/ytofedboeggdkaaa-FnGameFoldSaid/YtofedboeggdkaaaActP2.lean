/- The program's act, moving and taking; condition: small sizes. -/
import Derived.Test.YtofedboeggdkaaaOwnS
import Derived.Test.YtofedboeggdkaaaJoinG
import Derived.StillTailTactics
namespace Go.Proofs.Ytofedboeggdkaaa
open Go.RowKit Go.Joins

set_option maxRecDepth 100000 in
set_option maxHeartbeats 8000000 in
theorem act_move_no {D B : Nat} (es : List Rq) (fl la : List Int) (n0 n2 P : Nat) (a0 a1 a2 : Option Addr) (c1 c2 : Nat) (c n x y : Int) (w : World) (aP : w.heap[P]? = some (.cells #[.slice a0 n0 n0, .slice a1 16 c1, .slice a2 n2 c2] 46 (0, 0))) (h : Own3 w B a0 n0 a1 c1 a2 c2 ⟨es, fl, la⟩) (hn0 : es.length = n0) (hn1 : fl.length = 16) (hn2 : la.length = n2) (h4 : n0 ≤ 4) (hD : D ≤ B) (hDP : D ≤ P) (hp : Places es) (hf : ∀ n ∈ fl, 0 ≤ n ∧ n ≤ 20)
    (hc : 1 ≤ c ∧ c ≤ 4) (hx : -1 ≤ x ∧ x ≤ 4) (hy : -1 ≤ y ∧ y ≤ 9) (k : Nat) (hfig : figAt es c = some k) (hb : (inB ((entN es k).n + x) 0 3 && inB ((entN es k).o + y) 0 3) = false) :
    Calls Try.prog 83 #[.pointer (some ⟨P, 0, none⟩), .agg #[.int .i64 c, .int .i64 n, .int .i64 2, .int .i64 x, .int .i64 y]] w (ActOut D B P c1 c2 ⟨es, fl, la⟩ 6 w) := by
  have HN0 := Lib.hid hn0
  have HN1 := Lib.hid hn1
  have HN2 := Lib.hid hn2
  have HP := Lib.hid hp
  have HF := Lib.hid hf
  have hlP := lt_of_block aP
  have hDw : D ≤ w.heap.size := by omega
  go_enter Try.func83, Try.ntmps83
  go_upto_region 1 with fail
  obtain ⟨W, hW, sW, qX, kW⟩ := blocks1 w (.cells #[.int .i64 c, .int .i64 n, .int .i64 2, .int .i64 x, .int .i64 y] 34)
  rw [← hW]
  clear hW sW
  have aX := carryN kW aP
  have O := Lib.hid (h.below kW)
  have KD := Lib.hid (kW.mono hDw)
  have hPQ : ¬ (P = w.heap.size) := by omega
  have hQP : ¬ (w.heap.size = P) := by omega
  have ga := cellRe aX
  have gq := cellRe qX
  have cF := quietC (w := W) (fun V hV => figure_c es c a0 a1 a2 n0 16 n2 n0 c1 c2 V ((O.out.e.slG five_len HN0.out).below hV))
  rw [figI_opt, hfig] at cF
  clear aP h hn0 hn1 hn2 hp hf kW hlP
  go_wp2_with fail
  refine wp_region_quiet_below (by kernel_rfl) (by kernel_rfl) ?_
  repeat (go_big_quiet_step (first | with_reducible exact cF _ _))
  refine wpQuiet_nil ?_
  intro _ hw'
  obtain ⟨⟨dq, osq⟩, hw''⟩ := hw'
  subst hw''
  have hkb := below_regrown W dq osq
  replace aX := carryN hkb aX
  replace qX := carryN hkb qX
  replace O := Lib.hid (O.out.below hkb)
  replace KD := Lib.hid (KD.out.trans (hkb.mono (Nat.le_trans hDw KD.out.size)))
  clear hkb
  generalize Sort.grow (redrawn W dq) osq = X at *
  clear ga gq cF
  have cA := cell_of_block aX
  have cQ := cell_of_block qX
  have ho : optI (some k) = (k : Int) := rfl
  rw [ho]
  clear ho
  have hkz : k < es.length := by obtain ⟨hl, -⟩ := figAt_some hfig; exact hl
  have hkn : k < n0 := by rw [← HN0.out]; exact hkz
  have hk0 : (0 : Int) ≤ (k : Int) := by omega
  have hk1 : (k : Int) < (n0 : Int) := by omega
  have hkd : decide ((0 : Int) ≤ (k : Int)) = true := by simp
  have hkm : ¬ (k : Int) < 0 := by omega
  obtain ⟨g0, hg0, hgB, hgl, e0, e1, e2, e3, e4, ff, hr0⟩ := O.out.e.entAt (i := k) hkz
  simp only at e0 e1 e2 e3 e4
  subst hg0
  have hPk := HP.out _ (List.getElem_mem hkz)
  have HGK := Lib.hid (entN_get hkz)
  have hPg : ¬ P = g0 := fun e => by
    obtain ⟨g', cur, q1, -, q3, -⟩ := O.out.e.own (by have := O.out.e.len; omega)
    injection q1 with q1
    injection q1 with q1
    subst q1
    rw [← e, aX] at q3
    injection q3 with q3
    injection q3 with q3 q4
    exact absurd q4 (by decide)
  have hgP : ¬ g0 = P := fun e => hPg e.symm
  have hQg : ¬ w.heap.size = g0 := fun e => by
    obtain ⟨g', cur, q1, -, q3, -⟩ := O.out.e.own (by have := O.out.e.len; omega)
    injection q1 with q1
    injection q1 with q1
    subst q1
    rw [← e, qX] at q3
    injection q3 with q3
    injection q3 with q3 q4
    exact absurd q4 (by decide)
  have hgQ : ¬ g0 = w.heap.size := fun e => hQg e.symm
  rw [HGK.out] at hb
  generalize hzk : es[k] = z at *
  have HZK := Lib.hid hzk
  clear hzk
  have hm1 : IntKind.i64.wrap (z.n + x) = z.n + x := IntWalk.i64_in _ ⟨by omega, by omega⟩
  have hm2 : IntKind.i64.wrap (z.o + y) = z.o + y := IntWalk.i64_in _ ⟨by omega, by omega⟩
  have cB := quietC (w := X) (fun V _ => (onBoard_c (z.n + x) (z.o + y) V).mono (fun e w' h => ⟨h.1, h.2 ▸ Below.refl _ _⟩))
  rw [hb] at cB
  have x1 := cell_regrown e1
  have x2 := cell_regrown e2
  have ga := cellRe aX
  have gq := cellRe qX
  clear e0 e1 e2 e3 e4 ff
  go_wp2_with fail
  refine wp_region_quiet_below (by kernel_rfl) (by kernel_rfl) ?_
  repeat (go_big_quiet_step (first | with_reducible exact cB _ _))
  refine wpQuiet_nil ?_
  intro _ hw'
  obtain ⟨⟨dq, osq⟩, hw''⟩ := hw'
  subst hw''
  have hkb := below_regrown X dq osq
  replace aX := carryN hkb aX
  replace qX := carryN hkb qX
  replace O := Lib.hid (O.out.below hkb)
  replace KD := Lib.hid (KD.out.trans (hkb.mono (Nat.le_trans hDw KD.out.size)))
  clear hkb
  generalize Sort.grow (redrawn X dq) osq = Y at *
  clear x1 x2 ga gq cB hm1 hm2
  go_wp2_with fail
  go_ret
  exact actOut aX O.out KD.out HN0.out HN1.out HN2.out
set_option maxRecDepth 100000 in
set_option maxHeartbeats 8000000 in
theorem act_move {D B : Nat} (es : List Rq) (fl la : List Int) (n0 n2 P : Nat) (a0 a1 a2 : Option Addr) (c1 c2 : Nat) (c n x y : Int) (w : World) (aP : w.heap[P]? = some (.cells #[.slice a0 n0 n0, .slice a1 16 c1, .slice a2 n2 c2] 46 (0, 0))) (h : Own3 w B a0 n0 a1 c1 a2 c2 ⟨es, fl, la⟩) (hn0 : es.length = n0) (hn1 : fl.length = 16) (hn2 : la.length = n2) (h4 : n0 ≤ 4) (hD : D ≤ B) (hDP : D ≤ P) (hp : Places es) (hf : ∀ n ∈ fl, 0 ≤ n ∧ n ≤ 20)
    (hc : 1 ≤ c ∧ c ≤ 4) (hx : -1 ≤ x ∧ x ≤ 4) (hy : -1 ≤ y ∧ y ≤ 9) (k : Nat) (hfig : figAt es c = some k) (hb : (inB ((entN es k).n + x) 0 3 && inB ((entN es k).o + y) 0 3) = true) :
    Calls Try.prog 83 #[.pointer (some ⟨P, 0, none⟩), .agg #[.int .i64 c, .int .i64 n, .int .i64 2, .int .i64 x, .int .i64 y]] w (ActOut D B P c1 c2 ⟨es.set k { (entN es k) with n := (entN es k).n + x, o := (entN es k).o + y }, fl, la⟩ 0 w) := by
  have HN0 := Lib.hid hn0
  have HN1 := Lib.hid hn1
  have HN2 := Lib.hid hn2
  have HP := Lib.hid hp
  have HF := Lib.hid hf
  have hlP := lt_of_block aP
  have hDw : D ≤ w.heap.size := by omega
  go_enter Try.func83, Try.ntmps83
  go_upto_region 1 with fail
  obtain ⟨W, hW, sW, qX, kW⟩ := blocks1 w (.cells #[.int .i64 c, .int .i64 n, .int .i64 2, .int .i64 x, .int .i64 y] 34)
  rw [← hW]
  clear hW sW
  have aX := carryN kW aP
  have O := Lib.hid (h.below kW)
  have KD := Lib.hid (kW.mono hDw)
  have hPQ : ¬ (P = w.heap.size) := by omega
  have hQP : ¬ (w.heap.size = P) := by omega
  have ga := cellRe aX
  have gq := cellRe qX
  have cF := quietC (w := W) (fun V hV => figure_c es c a0 a1 a2 n0 16 n2 n0 c1 c2 V ((O.out.e.slG five_len HN0.out).below hV))
  rw [figI_opt, hfig] at cF
  clear aP h hn0 hn1 hn2 hp hf kW hlP
  go_wp2_with fail
  refine wp_region_quiet_below (by kernel_rfl) (by kernel_rfl) ?_
  repeat (go_big_quiet_step (first | with_reducible exact cF _ _))
  refine wpQuiet_nil ?_
  intro _ hw'
  obtain ⟨⟨dq, osq⟩, hw''⟩ := hw'
  subst hw''
  have hkb := below_regrown W dq osq
  replace aX := carryN hkb aX
  replace qX := carryN hkb qX
  replace O := Lib.hid (O.out.below hkb)
  replace KD := Lib.hid (KD.out.trans (hkb.mono (Nat.le_trans hDw KD.out.size)))
  clear hkb
  generalize Sort.grow (redrawn W dq) osq = X at *
  clear ga gq cF
  have cA := cell_of_block aX
  have cQ := cell_of_block qX
  have ho : optI (some k) = (k : Int) := rfl
  rw [ho]
  clear ho
  have hkz : k < es.length := by obtain ⟨hl, -⟩ := figAt_some hfig; exact hl
  have hkn : k < n0 := by rw [← HN0.out]; exact hkz
  have hk0 : (0 : Int) ≤ (k : Int) := by omega
  have hk1 : (k : Int) < (n0 : Int) := by omega
  have hkd : decide ((0 : Int) ≤ (k : Int)) = true := by simp
  have hkm : ¬ (k : Int) < 0 := by omega
  obtain ⟨g0, hg0, hgB, hgl, e0, e1, e2, e3, e4, ff, hr0⟩ := O.out.e.entAt (i := k) hkz
  simp only at e0 e1 e2 e3 e4
  subst hg0
  have hPk := HP.out _ (List.getElem_mem hkz)
  have HGK := Lib.hid (entN_get hkz)
  have hPg : ¬ P = g0 := fun e => by
    obtain ⟨g', cur, q1, -, q3, -⟩ := O.out.e.own (by have := O.out.e.len; omega)
    injection q1 with q1
    injection q1 with q1
    subst q1
    rw [← e, aX] at q3
    injection q3 with q3
    injection q3 with q3 q4
    exact absurd q4 (by decide)
  have hgP : ¬ g0 = P := fun e => hPg e.symm
  have hQg : ¬ w.heap.size = g0 := fun e => by
    obtain ⟨g', cur, q1, -, q3, -⟩ := O.out.e.own (by have := O.out.e.len; omega)
    injection q1 with q1
    injection q1 with q1
    subst q1
    rw [← e, qX] at q3
    injection q3 with q3
    injection q3 with q3 q4
    exact absurd q4 (by decide)
  have hgQ : ¬ g0 = w.heap.size := fun e => hQg e.symm
  rw [HGK.out] at hb
  generalize hzk : es[k] = z at *
  have HZK := Lib.hid hzk
  clear hzk
  have hm1 : IntKind.i64.wrap (z.n + x) = z.n + x := IntWalk.i64_in _ ⟨by omega, by omega⟩
  have hm2 : IntKind.i64.wrap (z.o + y) = z.o + y := IntWalk.i64_in _ ⟨by omega, by omega⟩
  have cB := quietC (w := X) (fun V _ => (onBoard_c (z.n + x) (z.o + y) V).mono (fun e w' h => ⟨h.1, h.2 ▸ Below.refl _ _⟩))
  rw [hb] at cB
  have x1 := cell_regrown e1
  have x2 := cell_regrown e2
  have ga := cellRe aX
  have gq := cellRe qX
  clear e0 e1 e2 e3 e4 ff
  go_wp2_with fail
  refine wp_region_quiet_below (by kernel_rfl) (by kernel_rfl) ?_
  repeat (go_big_quiet_step (first | with_reducible exact cB _ _))
  refine wpQuiet_nil ?_
  intro _ hw'
  obtain ⟨⟨dq, osq⟩, hw''⟩ := hw'
  subst hw''
  have hkb := below_regrown X dq osq
  replace aX := carryN hkb aX
  replace qX := carryN hkb qX
  replace O := Lib.hid (O.out.below hkb)
  replace KD := Lib.hid (KD.out.trans (hkb.mono (Nat.le_trans hDw KD.out.size)))
  clear hkb
  generalize Sort.grow (redrawn X dq) osq = Y at *
  clear x1 x2 ga gq cB hm1 hm2
  have hm1 : IntKind.i64.wrap (z.n + x) = z.n + x := IntWalk.i64_in _ ⟨by omega, by omega⟩
  have hm2 : IntKind.i64.wrap (z.o + y) = z.o + y := IntWalk.i64_in _ ⟨by omega, by omega⟩
  obtain ⟨g9, hg9, -, -, -, e1, -, -, -, ff, -⟩ := O.out.e.entAt (i := k) hkz
  injection hg9 with hg9
  injection hg9 with hg9
  subst hg9
  simp only at e1
  rw [HZK.out] at e1
  have ff1 := ff (k * 5 + 1)
  clear ff
  have cA := cell_of_block aX
  have cQ := cell_of_block qX
  have hgY : D ≤ g0 := by omega
  have O1 := Lib.hid (O.out.cellE (i := k) (j := 1) hkz (by decide) ({ z with n := z.n + x } : Rq) (.int .i64 (z.n + x)) rfl (fun j' h1 h2 => by
    simp only [HZK.out]
    have : j' = 0 ∨ j' = 2 ∨ j' = 3 ∨ j' = 4 := by omega
    rcases this with rfl | rfl | rfl | rfl <;> rfl)).drew
  have a1' := (Below.heap_setCell Y ⟨g0, k * 5 + 1, none⟩ (.int .i64 (z.n + x)) P hPg).trans aX
  have q1' := (Below.heap_setCell Y ⟨g0, k * 5 + 1, none⟩ (.int .i64 (z.n + x)) w.heap.size hQg).trans qX
  have K1 := Lib.hid (Below.setCell KD.out (p := ⟨g0, k * 5 + 1, none⟩) hgY (.int .i64 (z.n + x))).drew
  go_wp2_with fail
  go_still_tail 9, (by kernel_rfl)
  change wpList _ _ _ _ _ Y.drew
  go_upto_region 18 with fail
  obtain ⟨Z, hZ⟩ : ∃ Z, Z = (Y.setCell ⟨g0, k * 5 + 1, none⟩ (.int .i64 (z.n + x))).drew := ⟨_, rfl⟩
  have a2' : (Y.setCell ⟨g0, k * 5 + 1, none⟩ (.int .i64 (z.n + x))).drew.heap[P]? = _ := a1'
  have q2' : (Y.setCell ⟨g0, k * 5 + 1, none⟩ (.int .i64 (z.n + x))).drew.heap[w.heap.size]? = _ := q1'
  rw [← hZ] at O1 K1 a2' q2' ⊢
  clear hZ a1' q1' aX qX O KD cA cQ e1 ff1 hm1
  have hkz1 : k < (es.set k ({ z with n := z.n + x } : Rq)).length := by rw [List.length_set]; exact hkz
  obtain ⟨g9, hg9, -, -, -, -, e2, -, -, ff, -⟩ := O1.out.e.entAt (i := k) hkz1
  injection hg9 with hg9
  injection hg9 with hg9
  subst hg9
  simp only [List.getElem_set_self] at e2
  have ff2 := ff (k * 5 + 2)
  clear ff
  have cA := cell_of_block a2'
  have cQ := cell_of_block q2'
  have O2 := Lib.hid (O1.out.cellE (i := k) (j := 2) hkz1 (by decide) ({ z with n := z.n + x, o := z.o + y } : Rq) (.int .i64 (z.o + y)) rfl (fun j' h1 h2 => by
    simp only [List.getElem_set_self]
    have : j' = 0 ∨ j' = 1 ∨ j' = 3 ∨ j' = 4 := by omega
    rcases this with rfl | rfl | rfl | rfl <;> rfl)).drew
  have a3' := (Below.heap_setCell Z ⟨g0, k * 5 + 2, none⟩ (.int .i64 (z.o + y)) P hPg).trans a2'
  have K2 := Lib.hid (Below.setCell K1.out (p := ⟨g0, k * 5 + 2, none⟩) hgY (.int .i64 (z.o + y))).drew
  go_still_tail 9, (by kernel_rfl)
  change wpList _ _ _ _ _ Z.drew
  go_wp2_with fail
  go_ret
  rw [HGK.out]
  have o2 := O2.out
  simp only [List.set_set] at o2
  exact actOut (show (Z.setCell ⟨g0, k * 5 + 2, none⟩ (.int .i64 (z.o + y))).drew.heap[P]? = _ from a3') o2 K2.out (by simp only [List.length_set]; exact HN0.out) HN1.out HN2.out
set_option maxRecDepth 100000 in
set_option maxHeartbeats 8000000 in
theorem act_take_no {D B : Nat} (es : List Rq) (fl la : List Int) (n0 n2 P : Nat) (a0 a1 a2 : Option Addr) (c1 c2 : Nat) (c n x y : Int) (w : World) (aP : w.heap[P]? = some (.cells #[.slice a0 n0 n0, .slice a1 16 c1, .slice a2 n2 c2] 46 (0, 0))) (h : Own3 w B a0 n0 a1 c1 a2 c2 ⟨es, fl, la⟩) (hn0 : es.length = n0) (hn1 : fl.length = 16) (hn2 : la.length = n2) (h4 : n0 ≤ 4) (hD : D ≤ B) (hDP : D ≤ P) (hp : Places es) (hf : ∀ n ∈ fl, 0 ≤ n ∧ n ≤ 20)
    (hc : 1 ≤ c ∧ c ≤ 4) (hx : -1 ≤ x ∧ x ≤ 4) (hy : -1 ≤ y ∧ y ≤ 9) (k : Nat) (hfig : figAt es c = some k) (hv : fl.getD (sqOf (entN es k)) 0 = 0) :
    Calls Try.prog 83 #[.pointer (some ⟨P, 0, none⟩), .agg #[.int .i64 c, .int .i64 n, .int .i64 3, .int .i64 x, .int .i64 y]] w (ActOut D B P c1 c2 ⟨es, fl, la⟩ 7 w) := by
  have HN0 := Lib.hid hn0
  have HN1 := Lib.hid hn1
  have HN2 := Lib.hid hn2
  have HP := Lib.hid hp
  have HF := Lib.hid hf
  have hlP := lt_of_block aP
  have hDw : D ≤ w.heap.size := by omega
  go_enter Try.func83, Try.ntmps83
  go_upto_region 1 with fail
  obtain ⟨W, hW, sW, qX, kW⟩ := blocks1 w (.cells #[.int .i64 c, .int .i64 n, .int .i64 3, .int .i64 x, .int .i64 y] 34)
  rw [← hW]
  clear hW sW
  have aX := carryN kW aP
  have O := Lib.hid (h.below kW)
  have KD := Lib.hid (kW.mono hDw)
  have hPQ : ¬ (P = w.heap.size) := by omega
  have hQP : ¬ (w.heap.size = P) := by omega
  have ga := cellRe aX
  have gq := cellRe qX
  have cF := quietC (w := W) (fun V hV => figure_c es c a0 a1 a2 n0 16 n2 n0 c1 c2 V ((O.out.e.slG five_len HN0.out).below hV))
  rw [figI_opt, hfig] at cF
  clear aP h hn0 hn1 hn2 hp hf kW hlP
  go_wp2_with fail
  refine wp_region_quiet_below (by kernel_rfl) (by kernel_rfl) ?_
  repeat (go_big_quiet_step (first | with_reducible exact cF _ _))
  refine wpQuiet_nil ?_
  intro _ hw'
  obtain ⟨⟨dq, osq⟩, hw''⟩ := hw'
  subst hw''
  have hkb := below_regrown W dq osq
  replace aX := carryN hkb aX
  replace qX := carryN hkb qX
  replace O := Lib.hid (O.out.below hkb)
  replace KD := Lib.hid (KD.out.trans (hkb.mono (Nat.le_trans hDw KD.out.size)))
  clear hkb
  generalize Sort.grow (redrawn W dq) osq = X at *
  clear ga gq cF
  have cA := cell_of_block aX
  have cQ := cell_of_block qX
  have ho : optI (some k) = (k : Int) := rfl
  rw [ho]
  clear ho
  have hkz : k < es.length := by obtain ⟨hl, -⟩ := figAt_some hfig; exact hl
  have hkn : k < n0 := by rw [← HN0.out]; exact hkz
  have hk0 : (0 : Int) ≤ (k : Int) := by omega
  have hk1 : (k : Int) < (n0 : Int) := by omega
  have hkd : decide ((0 : Int) ≤ (k : Int)) = true := by simp
  have hkm : ¬ (k : Int) < 0 := by omega
  obtain ⟨g0, hg0, hgB, hgl, e0, e1, e2, e3, e4, ff, hr0⟩ := O.out.e.entAt (i := k) hkz
  simp only at e0 e1 e2 e3 e4
  subst hg0
  have hPk := HP.out _ (List.getElem_mem hkz)
  have HGK := Lib.hid (entN_get hkz)
  have hPg : ¬ P = g0 := fun e => by
    obtain ⟨g', cur, q1, -, q3, -⟩ := O.out.e.own (by have := O.out.e.len; omega)
    injection q1 with q1
    injection q1 with q1
    subst q1
    rw [← e, aX] at q3
    injection q3 with q3
    injection q3 with q3 q4
    exact absurd q4 (by decide)
  have hgP : ¬ g0 = P := fun e => hPg e.symm
  have hQg : ¬ w.heap.size = g0 := fun e => by
    obtain ⟨g', cur, q1, -, q3, -⟩ := O.out.e.own (by have := O.out.e.len; omega)
    injection q1 with q1
    injection q1 with q1
    subst q1
    rw [← e, qX] at q3
    injection q3 with q3
    injection q3 with q3 q4
    exact absurd q4 (by decide)
  have hgQ : ¬ g0 = w.heap.size := fun e => hQg e.symm
  rw [HGK.out] at hv
  generalize hzk : es[k] = z at *
  have HZK := Lib.hid hzk
  clear hzk
  have hqn : sqOf z < 16 := by unfold sqOf; omega
  have hqz : sqOf z < fl.length := by rw [HN1.out]; exact hqn
  obtain ⟨f0, hf0, hfB, hfl, ef, -, hrf0⟩ := O.out.f.intAt (i := sqOf z) hqz
  simp only at ef
  have hfq := HF.out _ (List.getElem_mem hqz)
  rw [List.getD_eq_getElem?_getD, List.getElem?_eq_getElem hqz, Option.getD_some] at hv
  subst hf0
  have cL := quietC (w := X) (fun V _ => floor_c z f0 0 (some ⟨g0, 0, none⟩) a2 n0 16 n2 n0 c1 c2 V hPk.1 hPk.2.1 rfl)
  rw [Nat.zero_add] at cL
  have x0 := cell_regrown e0
  have x1 := cell_regrown e1
  have x2 := cell_regrown e2
  have x3 := cell_regrown e3
  have x4 := cell_regrown e4
  have ga := cellRe aX
  have gq := cellRe qX
  clear e0 e1 e2 e3 e4 ff ef
  go_wp2_with fail
  refine wp_region_quiet_below (by kernel_rfl) (by kernel_rfl) ?_
  repeat (go_big_quiet_step (first | with_reducible exact cL _ _))
  refine wpQuiet_nil ?_
  intro _ hw'
  obtain ⟨⟨dq, osq⟩, hw''⟩ := hw'
  subst hw''
  have hkb := below_regrown X dq osq
  replace aX := carryN hkb aX
  replace qX := carryN hkb qX
  replace O := Lib.hid (O.out.below hkb)
  replace KD := Lib.hid (KD.out.trans (hkb.mono (Nat.le_trans hDw KD.out.size)))
  clear hkb
  generalize Sort.grow (redrawn X dq) osq = Y at *
  clear x0 x1 x2 x3 x4 ga gq cL
  obtain ⟨f9, hf9, -, -, ef, fff, -⟩ := O.out.f.intAt (i := sqOf z) hqz
  injection hf9 with hf9
  injection hf9 with hf9
  subst hf9
  simp only at ef
  have cA := cell_of_block aX
  have cQ := cell_of_block qX
  generalize hq : sqOf z = q at *
  have HQ := Lib.hid hq
  clear hq
  rw [hv] at ef
  clear hfq fff
  go_wp2_with fail
  go_ret
  exact actOut aX O.out KD.out HN0.out HN1.out HN2.out
set_option maxRecDepth 100000 in
set_option maxHeartbeats 8000000 in
theorem act_take {D B : Nat} (es : List Rq) (fl la : List Int) (n0 n2 P : Nat) (a0 a1 a2 : Option Addr) (c1 c2 : Nat) (c n x y : Int) (w : World) (aP : w.heap[P]? = some (.cells #[.slice a0 n0 n0, .slice a1 16 c1, .slice a2 n2 c2] 46 (0, 0))) (h : Own3 w B a0 n0 a1 c1 a2 c2 ⟨es, fl, la⟩) (hn0 : es.length = n0) (hn1 : fl.length = 16) (hn2 : la.length = n2) (h4 : n0 ≤ 4) (hD : D ≤ B) (hDP : D ≤ P) (hp : Places es) (hf : ∀ n ∈ fl, 0 ≤ n ∧ n ≤ 20)
    (hc : 1 ≤ c ∧ c ≤ 4) (hx : -1 ≤ x ∧ x ≤ 4) (hy : -1 ≤ y ∧ y ≤ 9) (k : Nat) (hfig : figAt es c = some k) (hv : ¬ fl.getD (sqOf (entN es k)) 0 = 0) :
    Calls Try.prog 83 #[.pointer (some ⟨P, 0, none⟩), .agg #[.int .i64 c, .int .i64 n, .int .i64 3, .int .i64 x, .int .i64 y]] w (ActOut D B P c1 c2 ⟨es.set k { (entN es k) with y := (entN es k).y + 1 }, addAt fl (sqOf (entN es k)) (-1), la⟩ 0 w) := by
  have HN0 := Lib.hid hn0
  have HN1 := Lib.hid hn1
  have HN2 := Lib.hid hn2
  have HP := Lib.hid hp
  have HF := Lib.hid hf
  have hlP := lt_of_block aP
  have hDw : D ≤ w.heap.size := by omega
  go_enter Try.func83, Try.ntmps83
  go_upto_region 1 with fail
  obtain ⟨W, hW, sW, qX, kW⟩ := blocks1 w (.cells #[.int .i64 c, .int .i64 n, .int .i64 3, .int .i64 x, .int .i64 y] 34)
  rw [← hW]
  clear hW sW
  have aX := carryN kW aP
  have O := Lib.hid (h.below kW)
  have KD := Lib.hid (kW.mono hDw)
  have hPQ : ¬ (P = w.heap.size) := by omega
  have hQP : ¬ (w.heap.size = P) := by omega
  have ga := cellRe aX
  have gq := cellRe qX
  have cF := quietC (w := W) (fun V hV => figure_c es c a0 a1 a2 n0 16 n2 n0 c1 c2 V ((O.out.e.slG five_len HN0.out).below hV))
  rw [figI_opt, hfig] at cF
  clear aP h hn0 hn1 hn2 hp hf kW hlP
  go_wp2_with fail
  refine wp_region_quiet_below (by kernel_rfl) (by kernel_rfl) ?_
  repeat (go_big_quiet_step (first | with_reducible exact cF _ _))
  refine wpQuiet_nil ?_
  intro _ hw'
  obtain ⟨⟨dq, osq⟩, hw''⟩ := hw'
  subst hw''
  have hkb := below_regrown W dq osq
  replace aX := carryN hkb aX
  replace qX := carryN hkb qX
  replace O := Lib.hid (O.out.below hkb)
  replace KD := Lib.hid (KD.out.trans (hkb.mono (Nat.le_trans hDw KD.out.size)))
  clear hkb
  generalize Sort.grow (redrawn W dq) osq = X at *
  clear ga gq cF
  have cA := cell_of_block aX
  have cQ := cell_of_block qX
  have ho : optI (some k) = (k : Int) := rfl
  rw [ho]
  clear ho
  have hkz : k < es.length := by obtain ⟨hl, -⟩ := figAt_some hfig; exact hl
  have hkn : k < n0 := by rw [← HN0.out]; exact hkz
  have hk0 : (0 : Int) ≤ (k : Int) := by omega
  have hk1 : (k : Int) < (n0 : Int) := by omega
  have hkd : decide ((0 : Int) ≤ (k : Int)) = true := by simp
  have hkm : ¬ (k : Int) < 0 := by omega
  obtain ⟨g0, hg0, hgB, hgl, e0, e1, e2, e3, e4, ff, hr0⟩ := O.out.e.entAt (i := k) hkz
  simp only at e0 e1 e2 e3 e4
  subst hg0
  have hPk := HP.out _ (List.getElem_mem hkz)
  have HGK := Lib.hid (entN_get hkz)
  have hPg : ¬ P = g0 := fun e => by
    obtain ⟨g', cur, q1, -, q3, -⟩ := O.out.e.own (by have := O.out.e.len; omega)
    injection q1 with q1
    injection q1 with q1
    subst q1
    rw [← e, aX] at q3
    injection q3 with q3
    injection q3 with q3 q4
    exact absurd q4 (by decide)
  have hgP : ¬ g0 = P := fun e => hPg e.symm
  have hQg : ¬ w.heap.size = g0 := fun e => by
    obtain ⟨g', cur, q1, -, q3, -⟩ := O.out.e.own (by have := O.out.e.len; omega)
    injection q1 with q1
    injection q1 with q1
    subst q1
    rw [← e, qX] at q3
    injection q3 with q3
    injection q3 with q3 q4
    exact absurd q4 (by decide)
  have hgQ : ¬ g0 = w.heap.size := fun e => hQg e.symm
  rw [HGK.out] at hv
  generalize hzk : es[k] = z at *
  have HZK := Lib.hid hzk
  clear hzk
  have hqn : sqOf z < 16 := by unfold sqOf; omega
  have hqz : sqOf z < fl.length := by rw [HN1.out]; exact hqn
  obtain ⟨f0, hf0, hfB, hfl, ef, -, hrf0⟩ := O.out.f.intAt (i := sqOf z) hqz
  simp only at ef
  have hfq := HF.out _ (List.getElem_mem hqz)
  rw [List.getD_eq_getElem?_getD, List.getElem?_eq_getElem hqz, Option.getD_some] at hv
  subst hf0
  have cL := quietC (w := X) (fun V _ => floor_c z f0 0 (some ⟨g0, 0, none⟩) a2 n0 16 n2 n0 c1 c2 V hPk.1 hPk.2.1 rfl)
  rw [Nat.zero_add] at cL
  have x0 := cell_regrown e0
  have x1 := cell_regrown e1
  have x2 := cell_regrown e2
  have x3 := cell_regrown e3
  have x4 := cell_regrown e4
  have ga := cellRe aX
  have gq := cellRe qX
  clear e0 e1 e2 e3 e4 ff ef
  go_wp2_with fail
  refine wp_region_quiet_below (by kernel_rfl) (by kernel_rfl) ?_
  repeat (go_big_quiet_step (first | with_reducible exact cL _ _))
  refine wpQuiet_nil ?_
  intro _ hw'
  obtain ⟨⟨dq, osq⟩, hw''⟩ := hw'
  subst hw''
  have hkb := below_regrown X dq osq
  replace aX := carryN hkb aX
  replace qX := carryN hkb qX
  replace O := Lib.hid (O.out.below hkb)
  replace KD := Lib.hid (KD.out.trans (hkb.mono (Nat.le_trans hDw KD.out.size)))
  clear hkb
  generalize Sort.grow (redrawn X dq) osq = Y at *
  clear x0 x1 x2 x3 x4 ga gq cL
  obtain ⟨f9, hf9, -, -, ef, fff, -⟩ := O.out.f.intAt (i := sqOf z) hqz
  injection hf9 with hf9
  injection hf9 with hf9
  subst hf9
  simp only at ef
  have cA := cell_of_block aX
  have cQ := cell_of_block qX
  generalize hq : sqOf z = q at *
  have HQ := Lib.hid hq
  clear hq
  obtain ⟨v, hvv⟩ : ∃ v, fl[q] = v := ⟨_, rfl⟩
  rw [hvv] at hv ef hfq
  have HAD := Lib.hid (show fl.set q (v - 1) = addAt fl q (-1) by unfold addAt; rw [List.getD_eq_getElem?_getD, List.getElem?_eq_getElem hqz, Option.getD_some, hvv]; rfl)
  have hvb : (v == 0) = false := by simpa using hv
  have hm3 : IntKind.i64.wrap (v - 1) = v - 1 := IntWalk.i64_in _ ⟨by omega, by omega⟩
  have hm4 : IntKind.i64.wrap (z.y + 1) = z.y + 1 := IntWalk.i64_in _ ⟨by omega, by omega⟩
  clear hvv
  obtain ⟨g9, hg9, -, -, -, -, -, -, e4, ff, -⟩ := O.out.e.entAt (i := k) hkz
  injection hg9 with hg9
  injection hg9 with hg9
  subst hg9
  simp only at e4
  rw [HZK.out] at e4
  have ff4 := ff (k * 5 + 4)
  clear ff
  have hgf : ¬ g0 = f0 := fun e => O.out.ef g0 hr0 (by rw [hrf0, e])
  have hfg : ¬ f0 = g0 := fun e => hgf e.symm
  have hPf : ¬ P = f0 := fun e => by
    obtain ⟨g', cur, q1, -, q3, -⟩ := O.out.f.own (by have := O.out.f.len; simp only at this; omega)
    injection q1 with q1
    injection q1 with q1
    subst q1
    rw [← e, aX] at q3
    injection q3 with q3
    injection q3 with q3 q4
    exact absurd q4 (by decide)
  have hfP : ¬ f0 = P := fun e => hPf e.symm
  have hgY : D ≤ g0 := by omega
  have hfY : D ≤ f0 := by omega
  have O1 := Lib.hid ((O.out.cellF (i := q) hqz (v - 1)).cellE (i := k) (j := 4) hkz (by decide) ({ z with y := z.y + 1 } : Rq) (.int .i64 (z.y + 1)) rfl (fun j' h1 h2 => by
    simp only [HZK.out]
    have : j' = 0 ∨ j' = 1 ∨ j' = 2 ∨ j' = 3 := by omega
    rcases this with rfl | rfl | rfl | rfl <;> rfl))
  have a1' := (Below.heap_setCell (Y.setCell ⟨f0, q, none⟩ (.int .i64 (v - 1))) ⟨g0, k * 5 + 4, none⟩ (.int .i64 (z.y + 1)) P hPg).trans ((Below.heap_setCell Y ⟨f0, q, none⟩ (.int .i64 (v - 1)) P hPf).trans aX)
  have K1 := Lib.hid (Below.setCell (Below.setCell KD.out (p := ⟨f0, q, none⟩) hfY (.int .i64 (v - 1))) (p := ⟨g0, k * 5 + 4, none⟩) hgY (.int .i64 (z.y + 1)))
  go_wp2_with fail
  go_ret
  rw [HGK.out, HQ.out, ← HAD.out]
  exact actOut a1' O1.out K1.out (by simp only [List.length_set]; exact HN0.out) (by simp only [List.length_set]; exact HN1.out) HN2.out
end Go.Proofs.Ytofedboeggdkaaa
