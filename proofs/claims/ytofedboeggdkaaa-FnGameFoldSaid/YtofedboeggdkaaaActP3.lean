/- The program's act, hits and gifts; condition: small sizes. -/
import Derived.Test.YtofedboeggdkaaaOwnS
import Derived.Test.YtofedboeggdkaaaJoinG
import Derived.StillTailTactics
namespace Go.Proofs.Ytofedboeggdkaaa
open Go.RowKit Go.Joins

set_option maxRecDepth 100000 in
set_option maxHeartbeats 8000000 in
theorem act_far {D B : Nat} (es : List Rq) (fl la : List Int) (n0 n2 P : Nat) (a0 a1 a2 : Option Addr) (c1 c2 : Nat) (c n o x y : Int) (w : World) (aP : w.heap[P]? = some (.cells #[.slice a0 n0 n0, .slice a1 16 c1, .slice a2 n2 c2] 46 (0, 0))) (h : Own3 w B a0 n0 a1 c1 a2 c2 ⟨es, fl, la⟩) (hn0 : es.length = n0) (hn1 : fl.length = 16) (hn2 : la.length = n2) (h4 : n0 ≤ 4) (hD : D ≤ B) (hDP : D ≤ P) (hp : Places es) (hf : ∀ n ∈ fl, 0 ≤ n ∧ n ≤ 20)
    (hc : 1 ≤ c ∧ c ≤ 4) (hx : -1 ≤ x ∧ x ≤ 4) (hy : -1 ≤ y ∧ y ≤ 9) (k : Nat) (hfig : figAt es c = some k) (ho1 : o ≠ 1) (ho2 : o ≠ 2) (ho3 : o ≠ 3) (hfar : ∀ m, figAt es x = some m → m = k ∨ nearB (entN es k) (entN es m) = false) :
    Calls Try.prog 83 #[.pointer (some ⟨P, 0, none⟩), .agg #[.int .i64 c, .int .i64 n, .int .i64 o, .int .i64 x, .int .i64 y]] w (ActOut D B P c1 c2 ⟨es, fl, la⟩ 8 w) := by
  have HN0 := Lib.hid hn0
  have HN1 := Lib.hid hn1
  have HN2 := Lib.hid hn2
  have HP := Lib.hid hp
  have HF := Lib.hid hf
  have hlP := lt_of_block aP
  have hDw : D ≤ w.heap.size := by omega
  go_enter Try.func83, Try.ntmps83
  go_upto_region 1 with fail
  obtain ⟨W, hW, sW, qX, kW⟩ := blocks1 w (.cells #[.int .i64 c, .int .i64 n, .int .i64 o, .int .i64 x, .int .i64 y] 34)
  rw [← hW]
  clear hW sW
  have aX := carryN kW aP
  have O := Lib.hid (h.below kW)
  have KD := Lib.hid (kW.mono hDw)
  have hPQ : ¬ (P = w.heap.size) := by omega
  have hQP : ¬ (w.heap.size = P) := by omega
  have ga := cellRe aX
  have gq := cellRe qX
  have cF := quietC (w := W) (fun V hV => figure_c es c a0 a1 a2 n0 16 n2 n0 c1 c2 V ((O.out.e.slG five_len HN0.out).below hV))
  rw [figI_opt, hfig] at cF
  clear aP h hn0 hn1 hn2 hp hf kW hlP
  go_wp2_with fail
  refine wp_region_quiet_below (by kernel_rfl) (by kernel_rfl) ?_
  repeat (go_big_quiet_step (first | with_reducible exact cF _ _))
  refine wpQuiet_nil ?_
  intro _ hw'
  obtain ⟨⟨dq, osq⟩, hw''⟩ := hw'
  subst hw''
  have hkb := below_regrown W dq osq
  replace aX := carryN hkb aX
  replace qX := carryN hkb qX
  replace O := Lib.hid (O.out.below hkb)
  replace KD := Lib.hid (KD.out.trans (hkb.mono (Nat.le_trans hDw KD.out.size)))
  clear hkb
  generalize Sort.grow (redrawn W dq) osq = X at *
  clear ga gq cF
  have cA := cell_of_block aX
  have cQ := cell_of_block qX
  have ho : optI (some k) = (k : Int) := rfl
  rw [ho]
  clear ho
  have hkz : k < es.length := by obtain ⟨hl, -⟩ := figAt_some hfig; exact hl
  have hkn : k < n0 := by rw [← HN0.out]; exact hkz
  have hk0 : (0 : Int) ≤ (k : Int) := by omega
  have hk1 : (k : Int) < (n0 : Int) := by omega
  have hkd : decide ((0 : Int) ≤ (k : Int)) = true := by simp
  have hkm : ¬ (k : Int) < 0 := by omega
  obtain ⟨g0, hg0, hgB, hgl, e0, e1, e2, e3, e4, ff, hr0⟩ := O.out.e.entAt (i := k) hkz
  simp only at e0 e1 e2 e3 e4
  subst hg0
  have hPk := HP.out _ (List.getElem_mem hkz)
  have HGK := Lib.hid (entN_get hkz)
  have hPg : ¬ P = g0 := fun e => by
    obtain ⟨g', cur, q1, -, q3, -⟩ := O.out.e.own (by have := O.out.e.len; omega)
    injection q1 with q1
    injection q1 with q1
    subst q1
    rw [← e, aX] at q3
    injection q3 with q3
    injection q3 with q3 q4
    exact absurd q4 (by decide)
  have hgP : ¬ g0 = P := fun e => hPg e.symm
  have hQg : ¬ w.heap.size = g0 := fun e => by
    obtain ⟨g', cur, q1, -, q3, -⟩ := O.out.e.own (by have := O.out.e.len; omega)
    injection q1 with q1
    injection q1 with q1
    subst q1
    rw [← e, qX] at q3
    injection q3 with q3
    injection q3 with q3 q4
    exact absurd q4 (by decide)
  have hgQ : ¬ g0 = w.heap.size := fun e => hQg e.symm
  generalize hzk : es[k] = z at *
  have HZK := Lib.hid hzk
  clear hzk
  have hob1 : (o == 1) = false := by simpa using ho1
  have hob2 : (o == 2) = false := by simpa using ho2
  have hob3 : (o == 3) = false := by simpa using ho3
  have ga := cellRe aX
  have gq := cellRe qX
  have cG := quietC (w := X) (fun V hV => figure_c es x (some ⟨g0, 0, none⟩) a1 a2 n0 16 n2 n0 c1 c2 V ((O.out.e.slG five_len HN0.out).below hV))
  rw [figI_opt] at cG
  clear e0 e1 e2 e3 e4 ff
  go_wp2_with fail
  refine wp_region_quiet_below (by kernel_rfl) (by kernel_rfl) ?_
  repeat (go_big_quiet_step (first | with_reducible exact cG _ _))
  refine wpQuiet_nil ?_
  intro _ hw'
  obtain ⟨⟨dq, osq⟩, hw''⟩ := hw'
  subst hw''
  have hkb := below_regrown X dq osq
  replace aX := carryN hkb aX
  replace qX := carryN hkb qX
  replace O := Lib.hid (O.out.below hkb)
  replace KD := Lib.hid (KD.out.trans (hkb.mono (Nat.le_trans hDw KD.out.size)))
  clear hkb
  generalize Sort.grow (redrawn X dq) osq = Y at *
  clear ga gq cG
  have cA := cell_of_block aX
  have cQ := cell_of_block qX
  rw [HGK.out] at hfar
  have hfar2 : (optI (figAt es x) < 0 ∨ optI (figAt es x) = (k : Int)) ∨ ∃ m, figAt es x = some m ∧ m ≠ k ∧ nearB z (entN es m) = false := by
    cases hfa : figAt es x with
    | none => exact .inl (.inl (by decide))
    | some m =>
      rcases hfar m hfa with h | h
      · exact .inl (.inr (by rw [h]; rfl))
      · by_cases hmk : m = k
        · exact .inl (.inr (by rw [hmk]; rfl))
        · exact .inr ⟨m, rfl, hmk, h⟩
  clear hfar
  rcases hfar2 with hm | ⟨m, hfa, hmk, hnr⟩
  · obtain ⟨m, hmm⟩ : ∃ m, m = optI (figAt es x) := ⟨_, rfl⟩
    rw [← hmm] at hm ⊢
    clear hmm cA cQ
    have ga := cellRe aX
    rcases hm with hm | hm
    · have hmd : decide (m < 0) = true := by simp; omega
      go_wp2_with fail
      refine wp_region_quiet_below (by kernel_rfl) (by kernel_rfl) ?_
      repeat (go_big_quiet_step (fail))
      refine wpQuiet_nil ?_
      intro _ hw'
      obtain ⟨⟨dq, osq⟩, hw''⟩ := hw'
      subst hw''
      have hkb := below_regrown Y dq osq
      replace aX := carryN hkb aX
      replace qX := carryN hkb qX
      replace O := Lib.hid (O.out.below hkb)
      replace KD := Lib.hid (KD.out.trans (hkb.mono (Nat.le_trans hDw KD.out.size)))
      clear hkb
      generalize Sort.grow (redrawn Y dq) osq = Z at *
      have cA := cell_of_block aX
      have cQ := cell_of_block qX
      go_wp2_with fail
      go_ret
      exact actOut aX O.out KD.out HN0.out HN1.out HN2.out
    · have hmd : decide (m < 0) = false := by simp; omega
      have hm0 : ¬ m < 0 := by omega
      subst hm
      go_wp2_with fail
      refine wp_region_quiet_below (by kernel_rfl) (by kernel_rfl) ?_
      repeat (go_big_quiet_step (fail))
      refine wpQuiet_nil ?_
      intro _ hw'
      obtain ⟨⟨dq, osq⟩, hw''⟩ := hw'
      subst hw''
      have hkb := below_regrown Y dq osq
      replace aX := carryN hkb aX
      replace qX := carryN hkb qX
      replace O := Lib.hid (O.out.below hkb)
      replace KD := Lib.hid (KD.out.trans (hkb.mono (Nat.le_trans hDw KD.out.size)))
      clear hkb
      generalize Sort.grow (redrawn Y dq) osq = Z at *
      have cA := cell_of_block aX
      have cQ := cell_of_block qX
      go_wp2_with fail
      go_ret
      exact actOut aX O.out KD.out HN0.out HN1.out HN2.out
  · obtain ⟨hml, -⟩ := figAt_some hfa
    rw [hfa]
    have hm0 : optI (some m) = (m : Int) := rfl
    rw [hm0]
    clear hm0 hfa
    have hmn0 : m < n0 := by rw [← HN0.out]; exact hml
    obtain ⟨g9, hg9, -, -, e0, e1, e2, e3, e4, -, -⟩ := O.out.e.entAt (i := k) hkz
    injection hg9 with hg9
    injection hg9 with hg9
    subst hg9
    obtain ⟨g9, hg9, -, -, d0, d1, d2, d3, d4, -, -⟩ := O.out.e.entAt (i := m) hml
    injection hg9 with hg9
    injection hg9 with hg9
    subst hg9
    simp only at e0 e1 e2 e3 e4 d0 d1 d2 d3 d4
    rw [HZK.out] at e0 e1 e2 e3 e4
    have hPm := HP.out _ (List.getElem_mem hml)
    have HGN := Lib.hid (entN_get hml)
    rw [entN_get hml] at hnr
    generalize hzm : es[m] = zm at *
    have HZM := Lib.hid hzm
    clear hzm
    have x0 := cell_regrown e0
    have x1 := cell_regrown e1
    have x2 := cell_regrown e2
    have x3 := cell_regrown e3
    have x4 := cell_regrown e4
    have y0 := cell_regrown d0
    have y1 := cell_regrown d1
    have y2 := cell_regrown d2
    have y3 := cell_regrown d3
    have y4 := cell_regrown d4
    have ga := cellRe aX
    have cN := quietC (w := Y) (fun V _ => near_c z zm V ⟨hPk.1.1, hPk.1.2, hPk.2.1.1, hPk.2.1.2⟩ ⟨hPm.1.1, hPm.1.2, hPm.2.1.1, hPm.2.1.2⟩)
    rw [hnr] at cN
    have hmd : decide ((m : Int) < 0) = false := by simp
    have hmn : ¬ (m : Int) < 0 := by omega
    have hmkb : ((m : Int) == (k : Int)) = false := by simp; omega
    have hmk2 : ¬ (m : Int) = (k : Int) := by omega
    have hm0' : (0 : Int) ≤ (m : Int) := by omega
    have hm1' : (m : Int) < (n0 : Int) := by omega
    clear e0 e1 e2 e3 e4 d0 d1 d2 d3 d4 hnr cA cQ
    go_wp2_with fail
    refine wp_region_quiet_below (by kernel_rfl) (by kernel_rfl) ?_
    repeat (go_big_quiet_step (first | with_reducible exact cN _ _))
    refine wpQuiet_nil ?_
    intro _ hw'
    obtain ⟨⟨dq, osq⟩, hw''⟩ := hw'
    subst hw''
    have hkb := below_regrown Y dq osq
    replace aX := carryN hkb aX
    replace qX := carryN hkb qX
    replace O := Lib.hid (O.out.below hkb)
    replace KD := Lib.hid (KD.out.trans (hkb.mono (Nat.le_trans hDw KD.out.size)))
    clear hkb
    generalize Sort.grow (redrawn Y dq) osq = Z at *
    clear x0 x1 x2 x3 x4 y0 y1 y2 y3 y4 ga cN
    have cA := cell_of_block aX
    have cQ := cell_of_block qX
    go_wp2_with fail
    go_ret
    exact actOut aX O.out KD.out HN0.out HN1.out HN2.out
set_option maxRecDepth 100000 in
set_option maxHeartbeats 8000000 in
theorem act_poor {D B : Nat} (es : List Rq) (fl la : List Int) (n0 n2 P : Nat) (a0 a1 a2 : Option Addr) (c1 c2 : Nat) (c n x y : Int) (w : World) (aP : w.heap[P]? = some (.cells #[.slice a0 n0 n0, .slice a1 16 c1, .slice a2 n2 c2] 46 (0, 0))) (h : Own3 w B a0 n0 a1 c1 a2 c2 ⟨es, fl, la⟩) (hn0 : es.length = n0) (hn1 : fl.length = 16) (hn2 : la.length = n2) (h4 : n0 ≤ 4) (hD : D ≤ B) (hDP : D ≤ P) (hp : Places es) (hf : ∀ n ∈ fl, 0 ≤ n ∧ n ≤ 20)
    (hc : 1 ≤ c ∧ c ≤ 4) (hx : -1 ≤ x ∧ x ≤ 4) (hy : -1 ≤ y ∧ y ≤ 9) (k : Nat) (hfig : figAt es c = some k) (m : Nat) (hfa : figAt es x = some m) (hmk : m ≠ k) (hnr : nearB (entN es k) (entN es m) = true) (hpo : (entN es k).y < y) :
    Calls Try.prog 83 #[.pointer (some ⟨P, 0, none⟩), .agg #[.int .i64 c, .int .i64 n, .int .i64 5, .int .i64 x, .int .i64 y]] w (ActOut D B P c1 c2 ⟨es, fl, la⟩ 7 w) := by
  have HN0 := Lib.hid hn0
  have HN1 := Lib.hid hn1
  have HN2 := Lib.hid hn2
  have HP := Lib.hid hp
  have HF := Lib.hid hf
  have hlP := lt_of_block aP
  have hDw : D ≤ w.heap.size := by omega
  go_enter Try.func83, Try.ntmps83
  go_upto_region 1 with fail
  obtain ⟨W, hW, sW, qX, kW⟩ := blocks1 w (.cells #[.int .i64 c, .int .i64 n, .int .i64 5, .int .i64 x, .int .i64 y] 34)
  rw [← hW]
  clear hW sW
  have aX := carryN kW aP
  have O := Lib.hid (h.below kW)
  have KD := Lib.hid (kW.mono hDw)
  have hPQ : ¬ (P = w.heap.size) := by omega
  have hQP : ¬ (w.heap.size = P) := by omega
  have ga := cellRe aX
  have gq := cellRe qX
  have cF := quietC (w := W) (fun V hV => figure_c es c a0 a1 a2 n0 16 n2 n0 c1 c2 V ((O.out.e.slG five_len HN0.out).below hV))
  rw [figI_opt, hfig] at cF
  clear aP h hn0 hn1 hn2 hp hf kW hlP
  go_wp2_with fail
  refine wp_region_quiet_below (by kernel_rfl) (by kernel_rfl) ?_
  repeat (go_big_quiet_step (first | with_reducible exact cF _ _))
  refine wpQuiet_nil ?_
  intro _ hw'
  obtain ⟨⟨dq, osq⟩, hw''⟩ := hw'
  subst hw''
  have hkb := below_regrown W dq osq
  replace aX := carryN hkb aX
  replace qX := carryN hkb qX
  replace O := Lib.hid (O.out.below hkb)
  replace KD := Lib.hid (KD.out.trans (hkb.mono (Nat.le_trans hDw KD.out.size)))
  clear hkb
  generalize Sort.grow (redrawn W dq) osq = X at *
  clear ga gq cF
  have cA := cell_of_block aX
  have cQ := cell_of_block qX
  have ho : optI (some k) = (k : Int) := rfl
  rw [ho]
  clear ho
  have hkz : k < es.length := by obtain ⟨hl, -⟩ := figAt_some hfig; exact hl
  have hkn : k < n0 := by rw [← HN0.out]; exact hkz
  have hk0 : (0 : Int) ≤ (k : Int) := by omega
  have hk1 : (k : Int) < (n0 : Int) := by omega
  have hkd : decide ((0 : Int) ≤ (k : Int)) = true := by simp
  have hkm : ¬ (k : Int) < 0 := by omega
  obtain ⟨g0, hg0, hgB, hgl, e0, e1, e2, e3, e4, ff, hr0⟩ := O.out.e.entAt (i := k) hkz
  simp only at e0 e1 e2 e3 e4
  subst hg0
  have hPk := HP.out _ (List.getElem_mem hkz)
  have HGK := Lib.hid (entN_get hkz)
  have hPg : ¬ P = g0 := fun e => by
    obtain ⟨g', cur, q1, -, q3, -⟩ := O.out.e.own (by have := O.out.e.len; omega)
    injection q1 with q1
    injection q1 with q1
    subst q1
    rw [← e, aX] at q3
    injection q3 with q3
    injection q3 with q3 q4
    exact absurd q4 (by decide)
  have hgP : ¬ g0 = P := fun e => hPg e.symm
  have hQg : ¬ w.heap.size = g0 := fun e => by
    obtain ⟨g', cur, q1, -, q3, -⟩ := O.out.e.own (by have := O.out.e.len; omega)
    injection q1 with q1
    injection q1 with q1
    subst q1
    rw [← e, qX] at q3
    injection q3 with q3
    injection q3 with q3 q4
    exact absurd q4 (by decide)
  have hgQ : ¬ g0 = w.heap.size := fun e => hQg e.symm
  generalize hzk : es[k] = z at *
  have HZK := Lib.hid hzk
  clear hzk
  have hob1 : ((5 : Int) == 1) = false := by decide
  have hob2 : ((5 : Int) == 2) = false := by decide
  have hob3 : ((5 : Int) == 3) = false := by decide
  have ga := cellRe aX
  have gq := cellRe qX
  have cG := quietC (w := X) (fun V hV => figure_c es x (some ⟨g0, 0, none⟩) a1 a2 n0 16 n2 n0 c1 c2 V ((O.out.e.slG five_len HN0.out).below hV))
  rw [figI_opt] at cG
  clear e0 e1 e2 e3 e4 ff
  go_wp2_with fail
  refine wp_region_quiet_below (by kernel_rfl) (by kernel_rfl) ?_
  repeat (go_big_quiet_step (first | with_reducible exact cG _ _))
  refine wpQuiet_nil ?_
  intro _ hw'
  obtain ⟨⟨dq, osq⟩, hw''⟩ := hw'
  subst hw''
  have hkb := below_regrown X dq osq
  replace aX := carryN hkb aX
  replace qX := carryN hkb qX
  replace O := Lib.hid (O.out.below hkb)
  replace KD := Lib.hid (KD.out.trans (hkb.mono (Nat.le_trans hDw KD.out.size)))
  clear hkb
  generalize Sort.grow (redrawn X dq) osq = Y at *
  clear ga gq cG
  have cA := cell_of_block aX
  have cQ := cell_of_block qX
  obtain ⟨hml, -⟩ := figAt_some hfa
  rw [hfa]
  have hm0 : optI (some m) = (m : Int) := rfl
  rw [hm0]
  clear hm0 hfa
  have hmn0 : m < n0 := by rw [← HN0.out]; exact hml
  obtain ⟨g9, hg9, -, -, e0, e1, e2, e3, e4, -, -⟩ := O.out.e.entAt (i := k) hkz
  injection hg9 with hg9
  injection hg9 with hg9
  subst hg9
  obtain ⟨g9, hg9, -, -, d0, d1, d2, d3, d4, -, -⟩ := O.out.e.entAt (i := m) hml
  injection hg9 with hg9
  injection hg9 with hg9
  subst hg9
  simp only at e0 e1 e2 e3 e4 d0 d1 d2 d3 d4
  rw [HZK.out] at e0 e1 e2 e3 e4
  have hPm := HP.out _ (List.getElem_mem hml)
  have HGN := Lib.hid (entN_get hml)
  rw [HGK.out, entN_get hml] at hnr
  generalize hzm : es[m] = zm at *
  have HZM := Lib.hid hzm
  clear hzm
  have x0 := cell_regrown e0
  have x1 := cell_regrown e1
  have x2 := cell_regrown e2
  have x3 := cell_regrown e3
  have x4 := cell_regrown e4
  have y0 := cell_regrown d0
  have y1 := cell_regrown d1
  have y2 := cell_regrown d2
  have y3 := cell_regrown d3
  have y4 := cell_regrown d4
  have ga := cellRe aX
  have cN := quietC (w := Y) (fun V _ => near_c z zm V ⟨hPk.1.1, hPk.1.2, hPk.2.1.1, hPk.2.1.2⟩ ⟨hPm.1.1, hPm.1.2, hPm.2.1.1, hPm.2.1.2⟩)
  rw [hnr] at cN
  have hmd : decide ((m : Int) < 0) = false := by simp
  have hmn : ¬ (m : Int) < 0 := by omega
  have hmkb : ((m : Int) == (k : Int)) = false := by simp; omega
  have hmk2 : ¬ (m : Int) = (k : Int) := by omega
  have hm0' : (0 : Int) ≤ (m : Int) := by omega
  have hm1' : (m : Int) < (n0 : Int) := by omega
  clear e0 e1 e2 e3 e4 d0 d1 d2 d3 d4 hnr cA cQ
  go_wp2_with fail
  refine wp_region_quiet_below (by kernel_rfl) (by kernel_rfl) ?_
  repeat (go_big_quiet_step (first | with_reducible exact cN _ _))
  refine wpQuiet_nil ?_
  intro _ hw'
  obtain ⟨⟨dq, osq⟩, hw''⟩ := hw'
  subst hw''
  have hkb := below_regrown Y dq osq
  replace aX := carryN hkb aX
  replace qX := carryN hkb qX
  replace O := Lib.hid (O.out.below hkb)
  replace KD := Lib.hid (KD.out.trans (hkb.mono (Nat.le_trans hDw KD.out.size)))
  clear hkb
  generalize Sort.grow (redrawn Y dq) osq = Z at *
  clear x0 x1 x2 x3 x4 y0 y1 y2 y3 y4 ga cN
  have cA := cell_of_block aX
  have cQ := cell_of_block qX
  obtain ⟨g9, hg9, -, -, -, -, -, -, e4, ff, -⟩ := O.out.e.entAt (i := k) hkz
  injection hg9 with hg9
  injection hg9 with hg9
  subst hg9
  simp only at e4
  rw [HZK.out] at e4
  rw [HGK.out] at hpo
  have x4 := cell_regrown e4
  have gq := cellRe qX
  have hpd : decide (z.y < y) = true := by simp; omega
  have hpi : z.y < y := hpo
  go_wp2_with fail
  refine wp_region_quiet_below (by kernel_rfl) (by kernel_rfl) ?_
  repeat (go_big_quiet_step (fail))
  refine wpQuiet_nil ?_
  intro _ hw'
  obtain ⟨⟨dq, osq⟩, hw''⟩ := hw'
  subst hw''
  have hkb := below_regrown Z dq osq
  replace aX := carryN hkb aX
  replace qX := carryN hkb qX
  replace O := Lib.hid (O.out.below hkb)
  replace KD := Lib.hid (KD.out.trans (hkb.mono (Nat.le_trans hDw KD.out.size)))
  clear hkb
  generalize Sort.grow (redrawn Z dq) osq = T at *
  clear x4 gq e4 ff
  go_wp2_with fail
  go_ret
  exact actOut aX O.out KD.out HN0.out HN1.out HN2.out
set_option maxRecDepth 100000 in
set_option maxHeartbeats 8000000 in
theorem act_give {D B : Nat} (es : List Rq) (fl la : List Int) (n0 n2 P : Nat) (a0 a1 a2 : Option Addr) (c1 c2 : Nat) (c n x y : Int) (w : World) (aP : w.heap[P]? = some (.cells #[.slice a0 n0 n0, .slice a1 16 c1, .slice a2 n2 c2] 46 (0, 0))) (h : Own3 w B a0 n0 a1 c1 a2 c2 ⟨es, fl, la⟩) (hn0 : es.length = n0) (hn1 : fl.length = 16) (hn2 : la.length = n2) (h4 : n0 ≤ 4) (hD : D ≤ B) (hDP : D ≤ P) (hp : Places es) (hf : ∀ n ∈ fl, 0 ≤ n ∧ n ≤ 20)
    (hc : 1 ≤ c ∧ c ≤ 4) (hx : -1 ≤ x ∧ x ≤ 4) (hy : -1 ≤ y ∧ y ≤ 9) (k : Nat) (hfig : figAt es c = some k) (m : Nat) (hfa : figAt es x = some m) (hmk : m ≠ k) (hnr : nearB (entN es k) (entN es m) = true) (hpo : ¬ (entN es k).y < y) :
    Calls Try.prog 83 #[.pointer (some ⟨P, 0, none⟩), .agg #[.int .i64 c, .int .i64 n, .int .i64 5, .int .i64 x, .int .i64 y]] w (ActOut D B P c1 c2 ⟨(es.set m { (entN es m) with y := (entN es m).y + y }).set k { (entN es k) with y := (entN es k).y - y }, fl, la⟩ 0 w) := by
  have HN0 := Lib.hid hn0
  have HN1 := Lib.hid hn1
  have HN2 := Lib.hid hn2
  have HP := Lib.hid hp
  have HF := Lib.hid hf
  have hlP := lt_of_block aP
  have hDw : D ≤ w.heap.size := by omega
  go_enter Try.func83, Try.ntmps83
  go_upto_region 1 with fail
  obtain ⟨W, hW, sW, qX, kW⟩ := blocks1 w (.cells #[.int .i64 c, .int .i64 n, .int .i64 5, .int .i64 x, .int .i64 y] 34)
  rw [← hW]
  clear hW sW
  have aX := carryN kW aP
  have O := Lib.hid (h.below kW)
  have KD := Lib.hid (kW.mono hDw)
  have hPQ : ¬ (P = w.heap.size) := by omega
  have hQP : ¬ (w.heap.size = P) := by omega
  have ga := cellRe aX
  have gq := cellRe qX
  have cF := quietC (w := W) (fun V hV => figure_c es c a0 a1 a2 n0 16 n2 n0 c1 c2 V ((O.out.e.slG five_len HN0.out).below hV))
  rw [figI_opt, hfig] at cF
  clear aP h hn0 hn1 hn2 hp hf kW hlP
  go_wp2_with fail
  refine wp_region_quiet_below (by kernel_rfl) (by kernel_rfl) ?_
  repeat (go_big_quiet_step (first | with_reducible exact cF _ _))
  refine wpQuiet_nil ?_
  intro _ hw'
  obtain ⟨⟨dq, osq⟩, hw''⟩ := hw'
  subst hw''
  have hkb := below_regrown W dq osq
  replace aX := carryN hkb aX
  replace qX := carryN hkb qX
  replace O := Lib.hid (O.out.below hkb)
  replace KD := Lib.hid (KD.out.trans (hkb.mono (Nat.le_trans hDw KD.out.size)))
  clear hkb
  generalize Sort.grow (redrawn W dq) osq = X at *
  clear ga gq cF
  have cA := cell_of_block aX
  have cQ := cell_of_block qX
  have ho : optI (some k) = (k : Int) := rfl
  rw [ho]
  clear ho
  have hkz : k < es.length := by obtain ⟨hl, -⟩ := figAt_some hfig; exact hl
  have hkn : k < n0 := by rw [← HN0.out]; exact hkz
  have hk0 : (0 : Int) ≤ (k : Int) := by omega
  have hk1 : (k : Int) < (n0 : Int) := by omega
  have hkd : decide ((0 : Int) ≤ (k : Int)) = true := by simp
  have hkm : ¬ (k : Int) < 0 := by omega
  obtain ⟨g0, hg0, hgB, hgl, e0, e1, e2, e3, e4, ff, hr0⟩ := O.out.e.entAt (i := k) hkz
  simp only at e0 e1 e2 e3 e4
  subst hg0
  have hPk := HP.out _ (List.getElem_mem hkz)
  have HGK := Lib.hid (entN_get hkz)
  have hPg : ¬ P = g0 := fun e => by
    obtain ⟨g', cur, q1, -, q3, -⟩ := O.out.e.own (by have := O.out.e.len; omega)
    injection q1 with q1
    injection q1 with q1
    subst q1
    rw [← e, aX] at q3
    injection q3 with q3
    injection q3 with q3 q4
    exact absurd q4 (by decide)
  have hgP : ¬ g0 = P := fun e => hPg e.symm
  have hQg : ¬ w.heap.size = g0 := fun e => by
    obtain ⟨g', cur, q1, -, q3, -⟩ := O.out.e.own (by have := O.out.e.len; omega)
    injection q1 with q1
    injection q1 with q1
    subst q1
    rw [← e, qX] at q3
    injection q3 with q3
    injection q3 with q3 q4
    exact absurd q4 (by decide)
  have hgQ : ¬ g0 = w.heap.size := fun e => hQg e.symm
  generalize hzk : es[k] = z at *
  have HZK := Lib.hid hzk
  clear hzk
  have hob1 : ((5 : Int) == 1) = false := by decide
  have hob2 : ((5 : Int) == 2) = false := by decide
  have hob3 : ((5 : Int) == 3) = false := by decide
  have ga := cellRe aX
  have gq := cellRe qX
  have cG := quietC (w := X) (fun V hV => figure_c es x (some ⟨g0, 0, none⟩) a1 a2 n0 16 n2 n0 c1 c2 V ((O.out.e.slG five_len HN0.out).below hV))
  rw [figI_opt] at cG
  clear e0 e1 e2 e3 e4 ff
  go_wp2_with fail
  refine wp_region_quiet_below (by kernel_rfl) (by kernel_rfl) ?_
  repeat (go_big_quiet_step (first | with_reducible exact cG _ _))
  refine wpQuiet_nil ?_
  intro _ hw'
  obtain ⟨⟨dq, osq⟩, hw''⟩ := hw'
  subst hw''
  have hkb := below_regrown X dq osq
  replace aX := carryN hkb aX
  replace qX := carryN hkb qX
  replace O := Lib.hid (O.out.below hkb)
  replace KD := Lib.hid (KD.out.trans (hkb.mono (Nat.le_trans hDw KD.out.size)))
  clear hkb
  generalize Sort.grow (redrawn X dq) osq = Y at *
  clear ga gq cG
  have cA := cell_of_block aX
  have cQ := cell_of_block qX
  obtain ⟨hml, -⟩ := figAt_some hfa
  rw [hfa]
  have hm0 : optI (some m) = (m : Int) := rfl
  rw [hm0]
  clear hm0 hfa
  have hmn0 : m < n0 := by rw [← HN0.out]; exact hml
  obtain ⟨g9, hg9, -, -, e0, e1, e2, e3, e4, -, -⟩ := O.out.e.entAt (i := k) hkz
  injection hg9 with hg9
  injection hg9 with hg9
  subst hg9
  obtain ⟨g9, hg9, -, -, d0, d1, d2, d3, d4, -, -⟩ := O.out.e.entAt (i := m) hml
  injection hg9 with hg9
  injection hg9 with hg9
  subst hg9
  simp only at e0 e1 e2 e3 e4 d0 d1 d2 d3 d4
  rw [HZK.out] at e0 e1 e2 e3 e4
  have hPm := HP.out _ (List.getElem_mem hml)
  have HGN := Lib.hid (entN_get hml)
  rw [HGK.out, entN_get hml] at hnr
  generalize hzm : es[m] = zm at *
  have HZM := Lib.hid hzm
  clear hzm
  have x0 := cell_regrown e0
  have x1 := cell_regrown e1
  have x2 := cell_regrown e2
  have x3 := cell_regrown e3
  have x4 := cell_regrown e4
  have y0 := cell_regrown d0
  have y1 := cell_regrown d1
  have y2 := cell_regrown d2
  have y3 := cell_regrown d3
  have y4 := cell_regrown d4
  have ga := cellRe aX
  have cN := quietC (w := Y) (fun V _ => near_c z zm V ⟨hPk.1.1, hPk.1.2, hPk.2.1.1, hPk.2.1.2⟩ ⟨hPm.1.1, hPm.1.2, hPm.2.1.1, hPm.2.1.2⟩)
  rw [hnr] at cN
  have hmd : decide ((m : Int) < 0) = false := by simp
  have hmn : ¬ (m : Int) < 0 := by omega
  have hmkb : ((m : Int) == (k : Int)) = false := by simp; omega
  have hmk2 : ¬ (m : Int) = (k : Int) := by omega
  have hm0' : (0 : Int) ≤ (m : Int) := by omega
  have hm1' : (m : Int) < (n0 : Int) := by omega
  clear e0 e1 e2 e3 e4 d0 d1 d2 d3 d4 hnr cA cQ
  go_wp2_with fail
  refine wp_region_quiet_below (by kernel_rfl) (by kernel_rfl) ?_
  repeat (go_big_quiet_step (first | with_reducible exact cN _ _))
  refine wpQuiet_nil ?_
  intro _ hw'
  obtain ⟨⟨dq, osq⟩, hw''⟩ := hw'
  subst hw''
  have hkb := below_regrown Y dq osq
  replace aX := carryN hkb aX
  replace qX := carryN hkb qX
  replace O := Lib.hid (O.out.below hkb)
  replace KD := Lib.hid (KD.out.trans (hkb.mono (Nat.le_trans hDw KD.out.size)))
  clear hkb
  generalize Sort.grow (redrawn Y dq) osq = Z at *
  clear x0 x1 x2 x3 x4 y0 y1 y2 y3 y4 ga cN
  have cA := cell_of_block aX
  have cQ := cell_of_block qX
  obtain ⟨g9, hg9, -, -, -, -, -, -, e4, ff, -⟩ := O.out.e.entAt (i := k) hkz
  injection hg9 with hg9
  injection hg9 with hg9
  subst hg9
  simp only at e4
  rw [HZK.out] at e4
  rw [HGK.out] at hpo
  have x4 := cell_regrown e4
  have gq := cellRe qX
  have hpd : decide (z.y < y) = false := by simp; omega
  have hpi : ¬ z.y < y := by omega
  go_wp2_with fail
  refine wp_region_quiet_below (by kernel_rfl) (by kernel_rfl) ?_
  repeat (go_big_quiet_step (fail))
  refine wpQuiet_nil ?_
  intro _ hw'
  obtain ⟨⟨dq, osq⟩, hw''⟩ := hw'
  subst hw''
  have hkb := below_regrown Z dq osq
  replace aX := carryN hkb aX
  replace qX := carryN hkb qX
  replace O := Lib.hid (O.out.below hkb)
  replace KD := Lib.hid (KD.out.trans (hkb.mono (Nat.le_trans hDw KD.out.size)))
  clear hkb
  generalize Sort.grow (redrawn Z dq) osq = T at *
  clear x4 gq e4 ff cA cQ
  have hm3 : IntKind.i64.wrap (z.y - y) = z.y - y := IntWalk.i64_in _ ⟨by omega, by omega⟩
  have hm4 : IntKind.i64.wrap (zm.y + y) = zm.y + y := IntWalk.i64_in _ ⟨by omega, by omega⟩
  obtain ⟨g9, hg9, -, -, -, -, -, -, e4, ff, -⟩ := O.out.e.entAt (i := k) hkz
  injection hg9 with hg9
  injection hg9 with hg9
  subst hg9
  simp only at e4
  rw [HZK.out] at e4
  have ff4 := ff (k * 5 + 4)
  clear ff
  have cA := cell_of_block aX
  have cQ := cell_of_block qX
  have hgY : D ≤ g0 := by omega
  have O1 := Lib.hid (O.out.cellE (i := k) (j := 4) hkz (by decide) ({ z with y := z.y - y } : Rq) (.int .i64 (z.y - y)) rfl (fun j' h1 h2 => by
    simp only [HZK.out]
    have : j' = 0 ∨ j' = 1 ∨ j' = 2 ∨ j' = 3 := by omega
    rcases this with rfl | rfl | rfl | rfl <;> rfl)).drew
  have a1' := (Below.heap_setCell T ⟨g0, k * 5 + 4, none⟩ (.int .i64 (z.y - y)) P hPg).trans aX
  have q1' := (Below.heap_setCell T ⟨g0, k * 5 + 4, none⟩ (.int .i64 (z.y - y)) w.heap.size hQg).trans qX
  have K1 := Lib.hid (Below.setCell KD.out (p := ⟨g0, k * 5 + 4, none⟩) hgY (.int .i64 (z.y - y))).drew
  go_wp2_with fail
  go_still_tail 9, (by kernel_rfl)
  change wpList _ _ _ _ _ T.drew
  go_upto_region 35 with fail
  obtain ⟨U, hU⟩ : ∃ U, U = (T.setCell ⟨g0, k * 5 + 4, none⟩ (.int .i64 (z.y - y))).drew := ⟨_, rfl⟩
  have a2' : (T.setCell ⟨g0, k * 5 + 4, none⟩ (.int .i64 (z.y - y))).drew.heap[P]? = _ := a1'
  have q2' : (T.setCell ⟨g0, k * 5 + 4, none⟩ (.int .i64 (z.y - y))).drew.heap[w.heap.size]? = _ := q1'
  rw [← hU] at O1 K1 a2' q2' ⊢
  clear hU a1' q1' aX qX O KD cA cQ e4 ff4 hm3
  have hml1 : m < (es.set k ({ z with y := z.y - y } : Rq)).length := by rw [List.length_set]; exact hml
  obtain ⟨g9, hg9, -, -, -, -, -, -, e4, ff, -⟩ := O1.out.e.entAt (i := m) hml1
  injection hg9 with hg9
  injection hg9 with hg9
  subst hg9
  have hgm : (es.set k ({ z with y := z.y - y } : Rq))[m] = zm := by rw [List.getElem_set_ne (fun e => hmk e.symm), HZM.out]
  have HGM := Lib.hid hgm
  simp only at e4
  rw [hgm] at e4
  clear hgm
  have ff4 := ff (m * 5 + 4)
  clear ff
  have cA := cell_of_block a2'
  have cQ := cell_of_block q2'
  have O2 := Lib.hid (O1.out.cellE (i := m) (j := 4) hml1 (by decide) ({ zm with y := zm.y + y } : Rq) (.int .i64 (zm.y + y)) rfl (fun j' h1 h2 => by
    simp only [HGM.out]
    have : j' = 0 ∨ j' = 1 ∨ j' = 2 ∨ j' = 3 := by omega
    rcases this with rfl | rfl | rfl | rfl <;> rfl)).drew
  have a3' := (Below.heap_setCell U ⟨g0, m * 5 + 4, none⟩ (.int .i64 (zm.y + y)) P hPg).trans a2'
  have K2 := Lib.hid (Below.setCell K1.out (p := ⟨g0, m * 5 + 4, none⟩) hgY (.int .i64 (zm.y + y))).drew
  go_still_tail 9, (by kernel_rfl)
  change wpList _ _ _ _ _ U.drew
  go_wp2_with fail
  go_ret
  rw [HGK.out, HGN.out]
  have o2 := O2.out
  rw [List.set_comm _ _ (fun e => hmk e.symm)] at o2
  exact actOut (show (U.setCell ⟨g0, m * 5 + 4, none⟩ (.int .i64 (zm.y + y))).drew.heap[P]? = _ from a3') o2 K2.out (by simp only [List.length_set]; exact HN0.out) HN1.out HN2.out
set_option maxRecDepth 100000 in
set_option maxHeartbeats 8000000 in
theorem act_hit {D B : Nat} (es : List Rq) (fl la : List Int) (n0 n2 P : Nat) (a0 a1 a2 : Option Addr) (c1 c2 : Nat) (c n x y : Int) (w : World) (aP : w.heap[P]? = some (.cells #[.slice a0 n0 n0, .slice a1 16 c1, .slice a2 n2 c2] 46 (0, 0))) (h : Own3 w B a0 n0 a1 c1 a2 c2 ⟨es, fl, la⟩) (hn0 : es.length = n0) (hn1 : fl.length = 16) (hn2 : la.length = n2) (h4 : n0 ≤ 4) (hD : D ≤ B) (hDP : D ≤ P) (hp : Places es) (hf : ∀ n ∈ fl, 0 ≤ n ∧ n ≤ 20)
    (hc : 1 ≤ c ∧ c ≤ 4) (hx : -1 ≤ x ∧ x ≤ 4) (hy : -1 ≤ y ∧ y ≤ 9) (k : Nat) (hfig : figAt es c = some k) (m : Nat) (hfa : figAt es x = some m) (hmk : m ≠ k) (hnr : nearB (entN es k) (entN es m) = true) (hxp : 0 < (entN es m).x - 1) :
    Calls Try.prog 83 #[.pointer (some ⟨P, 0, none⟩), .agg #[.int .i64 c, .int .i64 n, .int .i64 4, .int .i64 x, .int .i64 y]] w (ActOut D B P c1 c2 ⟨es.set m { (entN es m) with x := (entN es m).x - 1 }, fl, la⟩ 0 w) := by
  have HN0 := Lib.hid hn0
  have HN1 := Lib.hid hn1
  have HN2 := Lib.hid hn2
  have HP := Lib.hid hp
  have HF := Lib.hid hf
  have hlP := lt_of_block aP
  have hDw : D ≤ w.heap.size := by omega
  go_enter Try.func83, Try.ntmps83
  go_upto_region 1 with fail
  obtain ⟨W, hW, sW, qX, kW⟩ := blocks1 w (.cells #[.int .i64 c, .int .i64 n, .int .i64 4, .int .i64 x, .int .i64 y] 34)
  rw [← hW]
  clear hW sW
  have aX := carryN kW aP
  have O := Lib.hid (h.below kW)
  have KD := Lib.hid (kW.mono hDw)
  have hPQ : ¬ (P = w.heap.size) := by omega
  have hQP : ¬ (w.heap.size = P) := by omega
  have ga := cellRe aX
  have gq := cellRe qX
  have cF := quietC (w := W) (fun V hV => figure_c es c a0 a1 a2 n0 16 n2 n0 c1 c2 V ((O.out.e.slG five_len HN0.out).below hV))
  rw [figI_opt, hfig] at cF
  clear aP h hn0 hn1 hn2 hp hf kW hlP
  go_wp2_with fail
  refine wp_region_quiet_below (by kernel_rfl) (by kernel_rfl) ?_
  repeat (go_big_quiet_step (first | with_reducible exact cF _ _))
  refine wpQuiet_nil ?_
  intro _ hw'
  obtain ⟨⟨dq, osq⟩, hw''⟩ := hw'
  subst hw''
  have hkb := below_regrown W dq osq
  replace aX := carryN hkb aX
  replace qX := carryN hkb qX
  replace O := Lib.hid (O.out.below hkb)
  replace KD := Lib.hid (KD.out.trans (hkb.mono (Nat.le_trans hDw KD.out.size)))
  clear hkb
  generalize Sort.grow (redrawn W dq) osq = X at *
  clear ga gq cF
  have cA := cell_of_block aX
  have cQ := cell_of_block qX
  have ho : optI (some k) = (k : Int) := rfl
  rw [ho]
  clear ho
  have hkz : k < es.length := by obtain ⟨hl, -⟩ := figAt_some hfig; exact hl
  have hkn : k < n0 := by rw [← HN0.out]; exact hkz
  have hk0 : (0 : Int) ≤ (k : Int) := by omega
  have hk1 : (k : Int) < (n0 : Int) := by omega
  have hkd : decide ((0 : Int) ≤ (k : Int)) = true := by simp
  have hkm : ¬ (k : Int) < 0 := by omega
  obtain ⟨g0, hg0, hgB, hgl, e0, e1, e2, e3, e4, ff, hr0⟩ := O.out.e.entAt (i := k) hkz
  simp only at e0 e1 e2 e3 e4
  subst hg0
  have hPk := HP.out _ (List.getElem_mem hkz)
  have HGK := Lib.hid (entN_get hkz)
  have hPg : ¬ P = g0 := fun e => by
    obtain ⟨g', cur, q1, -, q3, -⟩ := O.out.e.own (by have := O.out.e.len; omega)
    injection q1 with q1
    injection q1 with q1
    subst q1
    rw [← e, aX] at q3
    injection q3 with q3
    injection q3 with q3 q4
    exact absurd q4 (by decide)
  have hgP : ¬ g0 = P := fun e => hPg e.symm
  have hQg : ¬ w.heap.size = g0 := fun e => by
    obtain ⟨g', cur, q1, -, q3, -⟩ := O.out.e.own (by have := O.out.e.len; omega)
    injection q1 with q1
    injection q1 with q1
    subst q1
    rw [← e, qX] at q3
    injection q3 with q3
    injection q3 with q3 q4
    exact absurd q4 (by decide)
  have hgQ : ¬ g0 = w.heap.size := fun e => hQg e.symm
  generalize hzk : es[k] = z at *
  have HZK := Lib.hid hzk
  clear hzk
  have hob1 : ((4 : Int) == 1) = false := by decide
  have hob2 : ((4 : Int) == 2) = false := by decide
  have hob3 : ((4 : Int) == 3) = false := by decide
  have ga := cellRe aX
  have gq := cellRe qX
  have cG := quietC (w := X) (fun V hV => figure_c es x (some ⟨g0, 0, none⟩) a1 a2 n0 16 n2 n0 c1 c2 V ((O.out.e.slG five_len HN0.out).below hV))
  rw [figI_opt] at cG
  clear e0 e1 e2 e3 e4 ff
  go_wp2_with fail
  refine wp_region_quiet_below (by kernel_rfl) (by kernel_rfl) ?_
  repeat (go_big_quiet_step (first | with_reducible exact cG _ _))
  refine wpQuiet_nil ?_
  intro _ hw'
  obtain ⟨⟨dq, osq⟩, hw''⟩ := hw'
  subst hw''
  have hkb := below_regrown X dq osq
  replace aX := carryN hkb aX
  replace qX := carryN hkb qX
  replace O := Lib.hid (O.out.below hkb)
  replace KD := Lib.hid (KD.out.trans (hkb.mono (Nat.le_trans hDw KD.out.size)))
  clear hkb
  generalize Sort.grow (redrawn X dq) osq = Y at *
  clear ga gq cG
  have cA := cell_of_block aX
  have cQ := cell_of_block qX
  obtain ⟨hml, -⟩ := figAt_some hfa
  rw [hfa]
  have hm0 : optI (some m) = (m : Int) := rfl
  rw [hm0]
  clear hm0 hfa
  have hmn0 : m < n0 := by rw [← HN0.out]; exact hml
  obtain ⟨g9, hg9, -, -, e0, e1, e2, e3, e4, -, -⟩ := O.out.e.entAt (i := k) hkz
  injection hg9 with hg9
  injection hg9 with hg9
  subst hg9
  obtain ⟨g9, hg9, -, -, d0, d1, d2, d3, d4, -, -⟩ := O.out.e.entAt (i := m) hml
  injection hg9 with hg9
  injection hg9 with hg9
  subst hg9
  simp only at e0 e1 e2 e3 e4 d0 d1 d2 d3 d4
  rw [HZK.out] at e0 e1 e2 e3 e4
  have hPm := HP.out _ (List.getElem_mem hml)
  have HGN := Lib.hid (entN_get hml)
  rw [HGK.out, entN_get hml] at hnr
  generalize hzm : es[m] = zm at *
  have HZM := Lib.hid hzm
  clear hzm
  have x0 := cell_regrown e0
  have x1 := cell_regrown e1
  have x2 := cell_regrown e2
  have x3 := cell_regrown e3
  have x4 := cell_regrown e4
  have y0 := cell_regrown d0
  have y1 := cell_regrown d1
  have y2 := cell_regrown d2
  have y3 := cell_regrown d3
  have y4 := cell_regrown d4
  have ga := cellRe aX
  have cN := quietC (w := Y) (fun V _ => near_c z zm V ⟨hPk.1.1, hPk.1.2, hPk.2.1.1, hPk.2.1.2⟩ ⟨hPm.1.1, hPm.1.2, hPm.2.1.1, hPm.2.1.2⟩)
  rw [hnr] at cN
  have hmd : decide ((m : Int) < 0) = false := by simp
  have hmn : ¬ (m : Int) < 0 := by omega
  have hmkb : ((m : Int) == (k : Int)) = false := by simp; omega
  have hmk2 : ¬ (m : Int) = (k : Int) := by omega
  have hm0' : (0 : Int) ≤ (m : Int) := by omega
  have hm1' : (m : Int) < (n0 : Int) := by omega
  clear e0 e1 e2 e3 e4 d0 d1 d2 d3 d4 hnr cA cQ
  go_wp2_with fail
  refine wp_region_quiet_below (by kernel_rfl) (by kernel_rfl) ?_
  repeat (go_big_quiet_step (first | with_reducible exact cN _ _))
  refine wpQuiet_nil ?_
  intro _ hw'
  obtain ⟨⟨dq, osq⟩, hw''⟩ := hw'
  subst hw''
  have hkb := below_regrown Y dq osq
  replace aX := carryN hkb aX
  replace qX := carryN hkb qX
  replace O := Lib.hid (O.out.below hkb)
  replace KD := Lib.hid (KD.out.trans (hkb.mono (Nat.le_trans hDw KD.out.size)))
  clear hkb
  generalize Sort.grow (redrawn Y dq) osq = Z at *
  clear x0 x1 x2 x3 x4 y0 y1 y2 y3 y4 ga cN
  have cA := cell_of_block aX
  have cQ := cell_of_block qX
  have hm3 : IntKind.i64.wrap (zm.x - 1) = zm.x - 1 := IntWalk.i64_in _ ⟨by omega, by omega⟩
  obtain ⟨g9, hg9, -, -, -, -, -, e3, -, ff, -⟩ := O.out.e.entAt (i := m) hml
  injection hg9 with hg9
  injection hg9 with hg9
  subst hg9
  simp only at e3
  rw [HZM.out] at e3
  have ff3 := ff (m * 5 + 3)
  clear ff
  have hgY : D ≤ g0 := by omega
  have O1 := Lib.hid (O.out.cellE (i := m) (j := 3) hml (by decide) ({ zm with x := zm.x - 1 } : Rq) (.int .i64 (zm.x - 1)) rfl (fun j' h1 h2 => by
    simp only [HZM.out]
    have : j' = 0 ∨ j' = 1 ∨ j' = 2 ∨ j' = 4 := by omega
    rcases this with rfl | rfl | rfl | rfl <;> rfl))
  have a1' := (Below.heap_setCell Z ⟨g0, m * 5 + 3, none⟩ (.int .i64 (zm.x - 1)) P hPg).trans aX
  have K1 := Lib.hid (Below.setCell KD.out (p := ⟨g0, m * 5 + 3, none⟩) hgY (.int .i64 (zm.x - 1)))
  go_upto_region 38 with fail
  obtain ⟨U, hU⟩ : ∃ U, U = Z.setCell ⟨g0, m * 5 + 3, none⟩ (.int .i64 (zm.x - 1)) := ⟨_, rfl⟩
  rw [← hU] at O1 K1 a1' ⊢
  clear hU aX qX O KD cA cQ e3 ff3 hm3
  have hml1 : m < (es.set m ({ zm with x := zm.x - 1 } : Rq)).length := by rw [List.length_set]; exact hml
  obtain ⟨g9, hg9, -, -, e0, e1, e2, e3, e4, -, -⟩ := O1.out.e.entAt (i := m) hml1
  injection hg9 with hg9
  injection hg9 with hg9
  subst hg9
  simp only [List.getElem_set_self] at e0 e1 e2 e3 e4
  have HL1 := Lib.hid (show (es.set m ({ zm with x := zm.x - 1 } : Rq)).length = n0 by rw [List.length_set]; exact HN0.out)
  have cA := cell_of_block a1'
  rw [HGN.out] at hxp
  have hxi : ¬ zm.x - 1 ≤ 0 := by omega
  go_wp2_with fail
  go_ret
  rw [HGN.out]
  exact actOut a1' O1.out K1.out HL1.out HN1.out HN2.out
set_option maxRecDepth 100000 in
set_option maxHeartbeats 8000000 in
theorem act_kill {D B : Nat} (es : List Rq) (fl la : List Int) (n0 n2 P : Nat) (a0 a1 a2 : Option Addr) (c1 c2 : Nat) (c n x y : Int) (w : World) (aP : w.heap[P]? = some (.cells #[.slice a0 n0 n0, .slice a1 16 c1, .slice a2 n2 c2] 46 (0, 0))) (h : Own3 w B a0 n0 a1 c1 a2 c2 ⟨es, fl, la⟩) (hn0 : es.length = n0) (hn1 : fl.length = 16) (hn2 : la.length = n2) (h4 : n0 ≤ 4) (hD : D ≤ B) (hDP : D ≤ P) (hp : Places es) (hf : ∀ n ∈ fl, 0 ≤ n ∧ n ≤ 20)
    (hc : 1 ≤ c ∧ c ≤ 4) (hx : -1 ≤ x ∧ x ≤ 4) (hy : -1 ≤ y ∧ y ≤ 9) (k : Nat) (hfig : figAt es c = some k) (m : Nat) (hfa : figAt es x = some m) (hmk : m ≠ k) (hnr : nearB (entN es k) (entN es m) = true) (hxp : (entN es m).x - 1 ≤ 0) (hB : B ≤ w.heap.size) :
    Calls Try.prog 83 #[.pointer (some ⟨P, 0, none⟩), .agg #[.int .i64 c, .int .i64 n, .int .i64 4, .int .i64 x, .int .i64 y]] w (ActOut D B P c1 c2 ⟨es.eraseIdx m, addAt fl (sqOf (entN es m)) (entN es m).y, la⟩ 0 w) := by
  have HN0 := Lib.hid hn0
  have HN1 := Lib.hid hn1
  have HN2 := Lib.hid hn2
  have HP := Lib.hid hp
  have HF := Lib.hid hf
  have hlP := lt_of_block aP
  have hDw : D ≤ w.heap.size := by omega
  go_enter Try.func83, Try.ntmps83
  go_upto_region 1 with fail
  obtain ⟨W, hW, sW, qX, kW⟩ := blocks1 w (.cells #[.int .i64 c, .int .i64 n, .int .i64 4, .int .i64 x, .int .i64 y] 34)
  rw [← hW]
  clear hW sW
  have aX := carryN kW aP
  have O := Lib.hid (h.below kW)
  have KD := Lib.hid (kW.mono hDw)
  have hPQ : ¬ (P = w.heap.size) := by omega
  have hQP : ¬ (w.heap.size = P) := by omega
  have ga := cellRe aX
  have gq := cellRe qX
  have cF := quietC (w := W) (fun V hV => figure_c es c a0 a1 a2 n0 16 n2 n0 c1 c2 V ((O.out.e.slG five_len HN0.out).below hV))
  rw [figI_opt, hfig] at cF
  clear aP h hn0 hn1 hn2 hp hf kW hlP
  go_wp2_with fail
  refine wp_region_quiet_below (by kernel_rfl) (by kernel_rfl) ?_
  repeat (go_big_quiet_step (first | with_reducible exact cF _ _))
  refine wpQuiet_nil ?_
  intro _ hw'
  obtain ⟨⟨dq, osq⟩, hw''⟩ := hw'
  subst hw''
  have hkb := below_regrown W dq osq
  replace aX := carryN hkb aX
  replace qX := carryN hkb qX
  replace O := Lib.hid (O.out.below hkb)
  replace KD := Lib.hid (KD.out.trans (hkb.mono (Nat.le_trans hDw KD.out.size)))
  clear hkb
  generalize Sort.grow (redrawn W dq) osq = X at *
  clear ga gq cF
  have cA := cell_of_block aX
  have cQ := cell_of_block qX
  have ho : optI (some k) = (k : Int) := rfl
  rw [ho]
  clear ho
  have hkz : k < es.length := by obtain ⟨hl, -⟩ := figAt_some hfig; exact hl
  have hkn : k < n0 := by rw [← HN0.out]; exact hkz
  have hk0 : (0 : Int) ≤ (k : Int) := by omega
  have hk1 : (k : Int) < (n0 : Int) := by omega
  have hkd : decide ((0 : Int) ≤ (k : Int)) = true := by simp
  have hkm : ¬ (k : Int) < 0 := by omega
  obtain ⟨g0, hg0, hgB, hgl, e0, e1, e2, e3, e4, ff, hr0⟩ := O.out.e.entAt (i := k) hkz
  simp only at e0 e1 e2 e3 e4
  subst hg0
  have hPk := HP.out _ (List.getElem_mem hkz)
  have HGK := Lib.hid (entN_get hkz)
  have hPg : ¬ P = g0 := fun e => by
    obtain ⟨g', cur, q1, -, q3, -⟩ := O.out.e.own (by have := O.out.e.len; omega)
    injection q1 with q1
    injection q1 with q1
    subst q1
    rw [← e, aX] at q3
    injection q3 with q3
    injection q3 with q3 q4
    exact absurd q4 (by decide)
  have hgP : ¬ g0 = P := fun e => hPg e.symm
  have hQg : ¬ w.heap.size = g0 := fun e => by
    obtain ⟨g', cur, q1, -, q3, -⟩ := O.out.e.own (by have := O.out.e.len; omega)
    injection q1 with q1
    injection q1 with q1
    subst q1
    rw [← e, qX] at q3
    injection q3 with q3
    injection q3 with q3 q4
    exact absurd q4 (by decide)
  have hgQ : ¬ g0 = w.heap.size := fun e => hQg e.symm
  generalize hzk : es[k] = z at *
  have HZK := Lib.hid hzk
  clear hzk
  have hob1 : ((4 : Int) == 1) = false := by decide
  have hob2 : ((4 : Int) == 2) = false := by decide
  have hob3 : ((4 : Int) == 3) = false := by decide
  have ga := cellRe aX
  have gq := cellRe qX
  have cG := quietC (w := X) (fun V hV => figure_c es x (some ⟨g0, 0, none⟩) a1 a2 n0 16 n2 n0 c1 c2 V ((O.out.e.slG five_len HN0.out).below hV))
  rw [figI_opt] at cG
  clear e0 e1 e2 e3 e4 ff
  go_wp2_with fail
  refine wp_region_quiet_below (by kernel_rfl) (by kernel_rfl) ?_
  repeat (go_big_quiet_step (first | with_reducible exact cG _ _))
  refine wpQuiet_nil ?_
  intro _ hw'
  obtain ⟨⟨dq, osq⟩, hw''⟩ := hw'
  subst hw''
  have hkb := below_regrown X dq osq
  replace aX := carryN hkb aX
  replace qX := carryN hkb qX
  replace O := Lib.hid (O.out.below hkb)
  replace KD := Lib.hid (KD.out.trans (hkb.mono (Nat.le_trans hDw KD.out.size)))
  clear hkb
  generalize Sort.grow (redrawn X dq) osq = Y at *
  clear ga gq cG
  have cA := cell_of_block aX
  have cQ := cell_of_block qX
  obtain ⟨hml, -⟩ := figAt_some hfa
  rw [hfa]
  have hm0 : optI (some m) = (m : Int) := rfl
  rw [hm0]
  clear hm0 hfa
  have hmn0 : m < n0 := by rw [← HN0.out]; exact hml
  obtain ⟨g9, hg9, -, -, e0, e1, e2, e3, e4, -, -⟩ := O.out.e.entAt (i := k) hkz
  injection hg9 with hg9
  injection hg9 with hg9
  subst hg9
  obtain ⟨g9, hg9, -, -, d0, d1, d2, d3, d4, -, -⟩ := O.out.e.entAt (i := m) hml
  injection hg9 with hg9
  injection hg9 with hg9
  subst hg9
  simp only at e0 e1 e2 e3 e4 d0 d1 d2 d3 d4
  rw [HZK.out] at e0 e1 e2 e3 e4
  have hPm := HP.out _ (List.getElem_mem hml)
  have HGN := Lib.hid (entN_get hml)
  rw [HGK.out, entN_get hml] at hnr
  generalize hzm : es[m] = zm at *
  have HZM := Lib.hid hzm
  clear hzm
  have x0 := cell_regrown e0
  have x1 := cell_regrown e1
  have x2 := cell_regrown e2
  have x3 := cell_regrown e3
  have x4 := cell_regrown e4
  have y0 := cell_regrown d0
  have y1 := cell_regrown d1
  have y2 := cell_regrown d2
  have y3 := cell_regrown d3
  have y4 := cell_regrown d4
  have ga := cellRe aX
  have cN := quietC (w := Y) (fun V _ => near_c z zm V ⟨hPk.1.1, hPk.1.2, hPk.2.1.1, hPk.2.1.2⟩ ⟨hPm.1.1, hPm.1.2, hPm.2.1.1, hPm.2.1.2⟩)
  rw [hnr] at cN
  have hmd : decide ((m : Int) < 0) = false := by simp
  have hmn : ¬ (m : Int) < 0 := by omega
  have hmkb : ((m : Int) == (k : Int)) = false := by simp; omega
  have hmk2 : ¬ (m : Int) = (k : Int) := by omega
  have hm0' : (0 : Int) ≤ (m : Int) := by omega
  have hm1' : (m : Int) < (n0 : Int) := by omega
  clear e0 e1 e2 e3 e4 d0 d1 d2 d3 d4 hnr cA cQ
  go_wp2_with fail
  refine wp_region_quiet_below (by kernel_rfl) (by kernel_rfl) ?_
  repeat (go_big_quiet_step (first | with_reducible exact cN _ _))
  refine wpQuiet_nil ?_
  intro _ hw'
  obtain ⟨⟨dq, osq⟩, hw''⟩ := hw'
  subst hw''
  have hkb := below_regrown Y dq osq
  replace aX := carryN hkb aX
  replace qX := carryN hkb qX
  replace O := Lib.hid (O.out.below hkb)
  replace KD := Lib.hid (KD.out.trans (hkb.mono (Nat.le_trans hDw KD.out.size)))
  clear hkb
  generalize Sort.grow (redrawn Y dq) osq = Z at *
  clear x0 x1 x2 x3 x4 y0 y1 y2 y3 y4 ga cN
  have cA := cell_of_block aX
  have cQ := cell_of_block qX
  have hm3 : IntKind.i64.wrap (zm.x - 1) = zm.x - 1 := IntWalk.i64_in _ ⟨by omega, by omega⟩
  obtain ⟨g9, hg9, -, -, -, -, -, e3, -, ff, -⟩ := O.out.e.entAt (i := m) hml
  injection hg9 with hg9
  injection hg9 with hg9
  subst hg9
  simp only at e3
  rw [HZM.out] at e3
  have ff3 := ff (m * 5 + 3)
  clear ff
  have hgY : D ≤ g0 := by omega
  have O1 := Lib.hid (O.out.cellE (i := m) (j := 3) hml (by decide) ({ zm with x := zm.x - 1 } : Rq) (.int .i64 (zm.x - 1)) rfl (fun j' h1 h2 => by
    simp only [HZM.out]
    have : j' = 0 ∨ j' = 1 ∨ j' = 2 ∨ j' = 4 := by omega
    rcases this with rfl | rfl | rfl | rfl <;> rfl))
  have a1' := (Below.heap_setCell Z ⟨g0, m * 5 + 3, none⟩ (.int .i64 (zm.x - 1)) P hPg).trans aX
  have K1 := Lib.hid (Below.setCell KD.out (p := ⟨g0, m * 5 + 3, none⟩) hgY (.int .i64 (zm.x - 1)))
  go_upto_region 38 with fail
  obtain ⟨U, hU⟩ : ∃ U, U = Z.setCell ⟨g0, m * 5 + 3, none⟩ (.int .i64 (zm.x - 1)) := ⟨_, rfl⟩
  rw [← hU] at O1 K1 a1' ⊢
  clear hU aX qX O KD cA cQ e3 ff3 hm3
  have hml1 : m < (es.set m ({ zm with x := zm.x - 1 } : Rq)).length := by rw [List.length_set]; exact hml
  obtain ⟨g9, hg9, -, -, e0, e1, e2, e3, e4, -, -⟩ := O1.out.e.entAt (i := m) hml1
  injection hg9 with hg9
  injection hg9 with hg9
  subst hg9
  simp only [List.getElem_set_self] at e0 e1 e2 e3 e4
  have HL1 := Lib.hid (show (es.set m ({ zm with x := zm.x - 1 } : Rq)).length = n0 by rw [List.length_set]; exact HN0.out)
  have cA := cell_of_block a1'
  rw [HGN.out] at hxp
  have hxi : zm.x - 1 ≤ 0 := by omega
  have hqn : sqOf zm < 16 := by unfold sqOf; omega
  have hqz : sqOf zm < fl.length := by rw [HN1.out]; exact hqn
  obtain ⟨f0, hf0, hfB, hfl, ef, fff, hrf0⟩ := O1.out.f.intAt (i := sqOf zm) hqz
  simp only at ef
  have hfq := HF.out _ (List.getElem_mem hqz)
  subst hf0
  have hsq : sqOf ({ zm with x := zm.x - 1 } : Rq) = sqOf zm := rfl
  generalize hq : sqOf zm = q at *
  have HQ := Lib.hid hq
  obtain ⟨v, hvv⟩ : ∃ v, fl[q] = v := ⟨_, rfl⟩
  rw [hvv] at ef hfq
  have HAD := Lib.hid (show fl.set q (v + zm.y) = addAt fl q zm.y by unfold addAt; rw [List.getD_eq_getElem?_getD, List.getElem?_eq_getElem hqz, Option.getD_some, hvv])
  clear hvv hq
  have hm5 : IntKind.i64.wrap (v + zm.y) = v + zm.y := IntWalk.i64_in _ ⟨by omega, by omega⟩
  have CL := Lib.hid (fun V => floor_c ({ zm with x := zm.x - 1 } : Rq) f0 0 (some ⟨g0, 0, none⟩) a2 n0 16 n2 n0 c1 c2 V hPm.1 hPm.2.1 rfl)
  rw [hsq, Nat.zero_add] at CL
  clear hsq
  have hgf : ¬ g0 = f0 := fun e => O1.out.ef g0 hr0 (by rw [hrf0, e])
  have hfg : ¬ f0 = g0 := fun e => hgf e.symm
  have hPf : ¬ P = f0 := fun e => by
    obtain ⟨g', cur, q1, -, q3, -⟩ := O1.out.f.own (by have := O1.out.f.len; simp only at this; omega)
    injection q1 with q1
    injection q1 with q1
    subst q1
    rw [← e, a1'] at q3
    injection q3 with q3
    injection q3 with q3 q4
    exact absurd q4 (by decide)
  have hfP : ¬ f0 = P := fun e => hPf e.symm
  go_wp2_with fail
  clear cA
  have hcp := cell_of_block (show U.drew.heap[P]? = _ from a1')
  have O2 := Lib.hid O1.out.drew
  have K2 := Lib.hid K1.out.drew
  have a2' := Lib.hid (show U.drew.heap[P]? = _ from a1')
  have hUd : ∀ p : Addr, U.drew.cell? p = U.cell? p := fun _ => rfl
  have E0 := (hUd _).trans e0
  have E1 := (hUd _).trans e1
  have E2 := (hUd _).trans e2
  have E3 := (hUd _).trans e3
  have E4 := (hUd _).trans e4
  have EF := (hUd _).trans ef
  have EFF := Lib.hid (show U.drew.frozen? ⟨f0, q, none⟩ = false from fff)
  have hlf : f0 < U.drew.heap.size := hfl
  have hlg : g0 < U.drew.heap.size := by obtain ⟨g', cur, q1, -, q3, -⟩ := O2.out.e.own (by have := O2.out.e.len; have := HL1.out; omega); injection q1 with q1; injection q1 with q1; subst q1; exact lt_of_block q3
  have hlP2 : P < U.drew.heap.size := lt_of_block a2'.out
  clear e0 e1 e2 e3 e4 ef fff a1' O1 K1 hUd hfl
  obtain ⟨T, hT⟩ : ∃ T, T = U.drew := ⟨_, rfl⟩
  rw [← hT] at hcp O2 K2 a2' E0 E1 E2 E3 E4 EF EFF hlf hlg hlP2
  have hSS : (∀ i, T.cell? ⟨P, i, none⟩ = (#[.slice (some ⟨g0, 0, none⟩) n0 n0, .slice (some ⟨f0, 0, none⟩) 16 c1, .slice a2 n2 c2] : Array Value)[i]?) ∧ T.cell? ⟨g0, m * 5, none⟩ = some (.int .i64 zm.c) ∧ T.cell? ⟨g0, m * 5 + 1, none⟩ = some (.int .i64 zm.n) ∧ T.cell? ⟨g0, m * 5 + 2, none⟩ = some (.int .i64 zm.o) ∧ T.cell? ⟨g0, m * 5 + 3, none⟩ = some (.int .i64 (zm.x - 1)) ∧ T.cell? ⟨g0, m * 5 + 4, none⟩ = some (.int .i64 zm.y) := ⟨hcp, E0, E1, E2, E3, E4⟩
  refine wp_region_held_drew (S := fun w' => (∀ i, w'.cell? ⟨P, i, none⟩ = (#[.slice (some ⟨g0, 0, none⟩) n0 n0, .slice (some ⟨f0, 0, none⟩) 16 c1, .slice a2 n2 c2] : Array Value)[i]?) ∧ w'.cell? ⟨g0, m * 5, none⟩ = some (.int .i64 zm.c) ∧ w'.cell? ⟨g0, m * 5 + 1, none⟩ = some (.int .i64 zm.n) ∧ w'.cell? ⟨g0, m * 5 + 2, none⟩ = some (.int .i64 zm.o) ∧ w'.cell? ⟨g0, m * 5 + 3, none⟩ = some (.int .i64 (zm.x - 1)) ∧ w'.cell? ⟨g0, m * 5 + 4, none⟩ = some (.int .i64 zm.y)) (by kernel_rfl) (hT ▸ hSS) (fun hHeld => ?_)
  rw [← hT] at hHeld ⊢
  clear hT hcp E0 E1 E2 E3 E4 hSS
  refine wpAnyH_take (i := 0) (oi := _) (v := ?_) (by (simp only [List.getElem?_toArray]; rfl)) (by kernel_rfl) (by kernel_rfl) (by kernel_rfl) (by exact fun _ _ _ h => h) (Or.inl ⟨by rfl, ?_⟩) (by assumption) ?_
  rotate_left
  · intro wS hSw
    go_simp
    all_goals first | with_reducible rfl | rw [if_neg (by omega)]
  simp only [Act.put, List.setIfInBounds_toArray, List.set]
  refine wpAnyH_take (i := 1) (oi := _) (v := ?_) (by (simp only [List.getElem?_toArray]; rfl)) (by kernel_rfl) (by kernel_rfl) (by kernel_rfl) (by exact fun _ _ _ h => h) (Or.inl ⟨by rfl, ?_⟩) (by assumption) ?_
  rotate_left
  · intro wS hSw
    go_simp
    all_goals first | with_reducible rfl | rw [if_neg (by omega)]
  simp only [Act.put, List.setIfInBounds_toArray, List.set]
  refine wpAnyH_take (i := 2) (oi := _) (v := ?_) (by (simp only [List.getElem?_toArray]; rfl)) (by kernel_rfl) (by kernel_rfl) (by kernel_rfl) (by exact fun _ _ _ h => h) (Or.inl ⟨by rfl, ?_⟩) (by assumption) ?_
  rotate_left
  · intro wS hSw
    go_simp
    all_goals first | with_reducible rfl | rw [if_neg (by omega)]
  simp only [Act.put, List.setIfInBounds_toArray, List.set]
  refine wpAnyH_take (i := 3) (oi := _) (v := ?_) (by (simp only [List.getElem?_toArray]; rfl)) (by kernel_rfl) (by kernel_rfl) (by kernel_rfl) (by exact fun _ _ _ h => h) (Or.inl ⟨by rfl, ?_⟩) (by assumption) ?_
  rotate_left
  · intro wS hSw
    go_simp
    all_goals first | with_reducible rfl | rw [if_neg (by omega)]
  simp only [Act.put, List.setIfInBounds_toArray, List.set]
  refine wpAnyH_take (i := 4) (oi := _) (v := ?_) (by (simp only [List.getElem?_toArray]; rfl)) (by kernel_rfl) (by kernel_rfl) (by kernel_rfl) (by exact fun _ _ _ h => h) (Or.inl ⟨by rfl, ?_⟩) (by assumption) ?_
  rotate_left
  · intro wS hSw
    go_simp
    all_goals first | with_reducible rfl | rw [if_neg (by omega)]
  simp only [Act.put, List.setIfInBounds_toArray, List.set]
  refine wpAnyH_take (i := 5) (oi := _) (v := ?_) (by (simp only [List.getElem?_toArray]; rfl)) (by kernel_rfl) (by kernel_rfl) (by kernel_rfl) (by exact fun _ _ _ h => h) (Or.inl ⟨by rfl, ?_⟩) (by assumption) ?_
  rotate_left
  · intro wS hSw
    go_simp
    all_goals first | with_reducible rfl | rw [if_neg (by omega)]
  simp only [Act.put, List.setIfInBounds_toArray, List.set]
  refine wpAnyH_take (i := 9) (oi := _) (v := ?_) (by (simp only [List.getElem?_toArray]; rfl)) (by kernel_rfl) (by kernel_rfl) (by kernel_rfl) (by exact fun _ _ _ h => h) (Or.inl ⟨by rfl, ?_⟩) (by assumption) ?_
  rotate_left
  · intro wS hSw
    go_simp
    all_goals first | with_reducible rfl | rw [if_neg (by omega)]
  simp only [Act.put, List.setIfInBounds_toArray, List.set]
  refine wpAnyH_take (i := 10) (oi := _) (v := ?_) (by (simp only [List.getElem?_toArray]; rfl)) (by kernel_rfl) (by kernel_rfl) (by kernel_rfl) (by exact fun _ _ _ h => h) (Or.inl ⟨by rfl, ?_⟩) (by assumption) ?_
  rotate_left
  · intro wS hSw
    go_simp
    all_goals first | with_reducible rfl | rw [if_neg (by omega)]
  simp only [Act.put, List.setIfInBounds_toArray, List.set]
  refine wpAnyH_take (i := 11) (oi := _) (v := ?_) (by (simp only [List.getElem?_toArray]; rfl)) (by kernel_rfl) (by kernel_rfl) (by kernel_rfl) (by exact fun _ _ _ h => h) (Or.inl ⟨by rfl, ?_⟩) (by assumption) ?_
  rotate_left
  · intro wS hSw
    go_simp
    all_goals first | with_reducible rfl | rw [if_neg (by omega)]
  simp only [Act.put, List.setIfInBounds_toArray, List.set]
  refine wpAnyH_take (i := 12) (oi := _) (v := ?_) (by (simp only [List.getElem?_toArray]; rfl)) (by kernel_rfl) (by kernel_rfl) (by kernel_rfl) (by exact fun _ _ _ h => h) (Or.inl ⟨by rfl, ?_⟩) (by assumption) ?_
  rotate_left
  · intro wS hSw
    go_simp
    all_goals first | with_reducible rfl | rw [if_neg (by omega)]
  simp only [Act.put, List.setIfInBounds_toArray, List.set]
  refine wpAnyH_ready (rs := [6]) (by kernel_rfl) (by simp) ?_
  refine AllReadyH.cons (o := _) (by (simp only [List.getElem?_toArray]; rfl)) (fun K hK => ?_) AllReadyH.nil
  go_simp
  refine (CL.out T).mono ?_
  rintro e t1 ⟨rfl, k1⟩
  have EF1 := (k1.cell (p := ⟨f0, q, none⟩) hlf).trans EF
  have FF1 := Lib.hid ((k1.frozen (p := ⟨f0, q, none⟩) hlf).trans EFF.out)
  have S1 : (∀ i, t1.cell? ⟨P, i, none⟩ = (#[.slice (some ⟨g0, 0, none⟩) n0 n0, .slice (some ⟨f0, 0, none⟩) 16 c1, .slice a2 n2 c2] : Array Value)[i]?) ∧ t1.cell? ⟨g0, m * 5, none⟩ = some (.int .i64 zm.c) ∧ t1.cell? ⟨g0, m * 5 + 1, none⟩ = some (.int .i64 zm.n) ∧ t1.cell? ⟨g0, m * 5 + 2, none⟩ = some (.int .i64 zm.o) ∧ t1.cell? ⟨g0, m * 5 + 3, none⟩ = some (.int .i64 (zm.x - 1)) ∧ t1.cell? ⟨g0, m * 5 + 4, none⟩ = some (.int .i64 zm.y) :=
    ⟨fun i => (k1.cell (p := ⟨P, i, none⟩) hlP2).trans (hHeld.1 i), (k1.cell (p := ⟨g0, _, none⟩) hlg).trans hHeld.2.1, (k1.cell (p := ⟨g0, _, none⟩) hlg).trans hHeld.2.2.1, (k1.cell (p := ⟨g0, _, none⟩) hlg).trans hHeld.2.2.2.1, (k1.cell (p := ⟨g0, _, none⟩) hlg).trans hHeld.2.2.2.2.1, (k1.cell (p := ⟨g0, _, none⟩) hlg).trans hHeld.2.2.2.2.2⟩
  have O3 := Lib.hid (O2.out.below k1)
  have a3 := Lib.hid (carryN k1 a2'.out)
  have K3 := Lib.hid (K2.out.trans (k1.mono (Nat.le_trans hDw K2.out.size)))
  clear k1
  refine hK.out _ _ S1 (fun hHeld => ?_)
  clear hK K
  try simp only [Act.put, List.setIfInBounds_toArray, List.set]
  refine wpAnyH_take (i := 7) (oi := _) (v := ?_) (by (simp only [List.getElem?_toArray]; rfl)) (by kernel_rfl) (by kernel_rfl) (by kernel_rfl) (by exact fun _ _ _ h => h) (Or.inl ⟨by rfl, ?_⟩) (by assumption) ?_
  rotate_left
  · intro wS hSw
    go_simp
    all_goals first | with_reducible rfl | rw [if_neg (by omega)]
  simp only [Act.put, List.setIfInBounds_toArray, List.set]
  refine wpAnyH_ready (rs := [8]) (by kernel_rfl) (by simp) ?_
  refine AllReadyH.cons (o := _) (by (simp only [List.getElem?_toArray]; rfl)) (fun K hK => ?_) AllReadyH.nil
  go_simp
  refine hK.out _ _ S1 (fun hHeld => ?_)
  clear hK K
  try simp only [Act.put, List.setIfInBounds_toArray, List.set]
  refine wpAnyH_take (i := 13) (oi := _) (v := ?_) (by (simp only [List.getElem?_toArray]; rfl)) (by kernel_rfl) (by kernel_rfl) (by kernel_rfl) (by exact fun _ _ _ h => h) (Or.inl ⟨by rfl, ?_⟩) (by assumption) ?_
  rotate_left
  · intro wS hSw
    go_simp
    all_goals first | with_reducible rfl | rw [if_neg (by omega)]
  simp only [Act.put, List.setIfInBounds_toArray, List.set]
  refine wpAnyH_take (i := 14) (oi := _) (v := ?_) (by (simp only [List.getElem?_toArray]; rfl)) (by kernel_rfl) (by kernel_rfl) (by kernel_rfl) (by exact fun _ _ _ h => h) (Or.inl ⟨by rfl, ?_⟩) (by assumption) ?_
  rotate_left
  · intro wS hSw
    go_simp
    all_goals first | with_reducible rfl | rw [if_neg (by omega)]
  simp only [Act.put, List.setIfInBounds_toArray, List.set]
  have FF2 := FF1.out
  refine wpAnyH_ready (rs := [15]) (by kernel_rfl) (by simp) ?_
  refine AllReadyH.cons (o := _) (by (simp only [List.getElem?_toArray]; rfl)) (fun K hK => ?_) AllReadyH.nil
  go_simp
  refine hK.out _ _ ⟨fun i => (World.cell?_setCell_other _ _ _ _ (by first | (simp; done) | (simp; omega))).trans (S1.1 i), (World.cell?_setCell_other _ _ _ _ (by first | (simp; done) | (simp; omega))).trans S1.2.1, (World.cell?_setCell_other _ _ _ _ (by first | (simp; done) | (simp; omega))).trans S1.2.2.1, (World.cell?_setCell_other _ _ _ _ (by first | (simp; done) | (simp; omega))).trans S1.2.2.2.1, (World.cell?_setCell_other _ _ _ _ (by first | (simp; done) | (simp; omega))).trans S1.2.2.2.2.1, (World.cell?_setCell_other _ _ _ _ (by first | (simp; done) | (simp; omega))).trans S1.2.2.2.2.2⟩ (fun _ => ?_)
  clear hK K
  try simp only [Act.put, List.setIfInBounds_toArray, List.set]
  refine wpAnyH_done (by kernel_rfl) ?_ _
  have O4 := Lib.hid (O3.out.cellF (i := q) hqz (v + zm.y))
  have a4 := (Below.heap_setCell t1 ⟨f0, q, none⟩ (.int .i64 (v + zm.y)) P hPf).trans a3.out
  have K4 := Lib.hid (Below.setCell K3.out (p := ⟨f0, q, none⟩) (show D ≤ f0 by omega) (.int .i64 (v + zm.y)))
  obtain ⟨V, hV⟩ : ∃ V, V = t1.setCell ⟨f0, q, none⟩ (.int .i64 (v + zm.y)) := ⟨_, rfl⟩
  rw [← hV] at O4 a4 K4 ⊢
  clear hV S1 hHeld O2 O3 a2' a3 K2 K3 EF EF1 FF1 FF2 EFF
  have cA := cell_of_block a4
  have hm6 : IntKind.i64.wrap ((m : Int) + 1) = (m : Int) + 1 := IntWalk.i64_in _ ⟨by omega, by omega⟩
  go_wp2_with fail
  refine (slDeleteEnt_c (n := n0) (i := m) V O4.out.e HL1.out hmn0 (by omega)).mono ?_
  rintro e v1 ⟨rfl, r1, k1⟩
  rw [List.eraseIdx_set_eq] at r1
  have HEL := Lib.hid (show (es.eraseIdx m).length = n0 - 1 by rw [List.length_eraseIdx_of_lt hml, HN0.out])
  have O5 := Lib.hid (O4.out.grownE r1 k1)
  have a5 := (k1.block P (lt_of_block a4) (fun e => by rw [hr0] at e; injection e with e; exact hPg e)).trans a4
  have K5 := Lib.hid (K4.out.grown k1 (Nat.le_trans hDw K4.out.size) (fun g hg => by rw [hr0] at hg; injection hg; omega))
  have R5 := Lib.hid (r1.slG five_len HEL.out)
  clear r1 k1 cA a4 O4 K4
  go_wp2_with fail
  refine (cloneEnt_c (some ⟨g0, 0, none⟩) (n0 - 1) n0 (es.eraseIdx m) v1 R5.out (by omega)).mono ?_
  intro e v2 hcl
  obtain ⟨b2, rfl, r2, k2⟩ := hcl.row
  have O6 := Lib.hid (O5.out.newE k2 r2 (Nat.le_refl _) (Nat.le_trans hB (by have := lt_of_block a5; have := K5.out.size; omega)))
  have a6 := carryN k2 a5
  have K6 := Lib.hid (K5.out.trans (k2.mono (Nat.le_trans hDw K5.out.size)))
  clear r2 k2 hcl a5 O5 K5 R5
  have cA := cell_of_block a6
  have fA := unfrozen_of_block a6
  have lA := lt_of_block a6
  go_wp2_with fail
  go_ret
  rw [HGN.out, HQ.out, ← HAD.out]
  refine actOut (n0 := n0 - 1) (a0 := b2) ?_ (O6.out.setType a6 (by decide) (by decide) 0 (.slice b2 (n0 - 1) (n0 - 1))) (Below.setCell K6.out hDP _) HEL.out (by simp only [List.length_set]; exact HN1.out) HN2.out
  have := block_setCell (i := 0) a6 (.slice b2 (n0 - 1) (n0 - 1))
  simpa only [List.setIfInBounds_toArray, List.set] using this
end Go.Proofs.Ytofedboeggdkaaa
