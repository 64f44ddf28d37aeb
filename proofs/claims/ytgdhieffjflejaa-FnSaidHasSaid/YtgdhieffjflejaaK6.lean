/- A leader that is asked (l5Ask); condition: small sizes. -/
import Derived.Test.YtgdhieffjflejaaK5
set_option linter.unusedSimpArgs false
set_option linter.unusedVariables false
namespace Go.Proofs.Ytgdhieffjflejaa
open Go.RowKit Go.Joins

attribute [local go_sem ↓] eql_rq neq_rq
set_option maxRecDepth 100000 in
set_option maxHeartbeats 16000000 in
theorem l5Ask_c (X : Nat → Prop) (T D : Nat) (r : Rk) (va : Value) (m : Mg) (w : World) (h : Rob X r.ok w) (hf : r.fit T D) (hm : IsMg w va m) (hX : ∀ b, X b → b < w.heap.size) (hT : T ≤ 999999) :
    Calls Try.prog 94 #[.agg #[.int .i64 r.me, .int .i64 r.view, .bool r.live, .int .i64 r.nx, .slice r.ta r.tk.length r.tc, .slice r.ha r.hd.length r.hc, .slice r.da r.dn.length r.dc], va] w (KeepSays X (T + 1) D 1 w) := by
  have HO := Lib.hid h
  have HF := Lib.hid hf
  obtain ⟨-, hlc, hmx, hrt⟩ := h.out.1.bounds
  have HT := Lib.hid hrt
  have htl : r.tk.length ≤ 999999 := Nat.le_trans hf.tk hT
  unfold maxLen at hmx
  obtain ⟨rfl, ⟨am, cm, em, -⟩, ⟨bm, dm, fm, -⟩, -⟩ := hm
  simp only [Mg.cs, em, fm]
  clear h hf hrt em fm
  go_enter Try.func94, Try.ntmps94
  go_upto_region 1 with fail
  obtain ⟨W, hW_, sW, x, y, z, kW⟩ := blocks3 w (.cells #[.int .i64 r.me, .int .i64 r.view, .bool r.live, .int .i64 r.nx, .slice r.ta r.tk.length r.tc, .slice r.ha r.hd.length r.hc, .slice r.da r.dn.length r.dc] 78) (.cells #[.int .i64 m.k, .int .i64 m.f, .int .i64 m.v, .int .i64 m.s, .int .i64 m.r.c, .int .i64 m.r.n, .int .i64 m.r.o, .int .i64 m.r.x, .int .i64 m.r.y, .slice am m.cl.length cm, .slice bm m.vs.length dm] 34) (.cells #[.int .i64 0, .int .i64 0, .bool false, .int .i64 0, .slice none 0 0, .slice none 0 0, .slice none 0 0] 78)
  rw [← hW_]
  clear hW_
  have hsW : w.heap.size + 3 ≤ W.heap.size := by omega
  obtain ⟨X1, hlt, hin, hsub, hbx⟩ : ∃ X1 : Nat → Prop, (∀ b, X1 b → b < W.heap.size) ∧ (∀ b, w.heap.size ≤ b → b < W.heap.size → X1 b) ∧ (∀ b, X b → X1 b) ∧ ∀ (F : World → Prop) (V : World), Below w.heap.size w V → Rob X F w → Rob X1 F V :=
    ⟨Bx X w.heap.size W.heap.size, Bx.lt hX (by omega), fun b h1 h2 => .inr ⟨h1, h2⟩, fun b hb => .inl hb, fun F V hV hF => hF.box hV _⟩
  clear sW
  have K := kW
  have hs : W.heap.size ≤ W.heap.size := Nat.le_refl _
  clear kW
  have cS := quietC (w := W) (fun U _ => l3Leader_c r.view U)
  have ex := cellRe x
  obtain ⟨ql, hql⟩ : ∃ q, r.live = q := ⟨_, rfl⟩
  obtain ⟨q1, hq1⟩ : ∃ q, (leadN r.view != r.me) = q := ⟨_, rfl⟩
  obtain ⟨q2, hq2⟩ : ∃ q, decide ((5 : Int) < r.nx) = q := ⟨_, rfl⟩
  cases ql with
  | false =>
    refine wp_region_quiet_below (by kernel_rfl) (by kernel_rfl) ?_
    repeat (go_big_quiet_step (with_reducible exact cS _ _))
    refine wpQuiet_nil ?_
    intro _ hw'
    obtain ⟨⟨dq, osq⟩, hw''⟩ := hw'
    subst hw''
    have kq := below_regrown W dq osq
    clear ex cS
    generalize Sort.grow (redrawn W dq) osq = U at *
    have lx_ := lt_of_block x
    have ly_ := lt_of_block y
    have lz_ := lt_of_block z
    replace x := carryB kq lx_ x
    replace y := carryB kq ly_ y
    replace z := carryB kq lz_ z
    replace K := below_next K kq
    replace hs := Nat.le_trans hs kq.size
    clear kq lx_ ly_ lz_
    clear hql hq1 hq2
    have cx := cell_of_block x
    have fx := unfrozen_of_block x
    have lx := lt_of_block x
    have cy := cell_of_block y
    have fy := unfrozen_of_block y
    have ly := lt_of_block y
    have cz := cell_of_block z
    have fz := unfrozen_of_block z
    have lz := lt_of_block z
    go_wp2_with fail
    refine bodyPost_ret (v := .tuple #[.agg #[.int .i64 r.me, .int .i64 r.view, .bool r.live, .int .i64 r.nx, .slice r.ta r.tk.length r.tc, .slice r.ha r.hd.length r.hc, .slice r.da r.dn.length r.dc], .slice none 0 0]) (by simp [results, Try.results94, go_sem, cz]) rfl ?_
    refine ⟨r, none, 0, [], rfl, HO.out.below (by repeat' (first | with_reducible exact Below.refl _ _ | with_reducible assumption | with_reducible refine Below.alloc ?_ ?_ _ | with_reducible refine Below.drew ?_ | with_reducible refine Below.setCell ?_ ?_ _ | omega | (simp; omega) | (simp; done))), HF.out.more (by omega) (Nat.le_refl _), fun V' _ => isMs_nil _ _ _ (Nat.zero_le _), (fun z hz => nomatch hz), Nat.zero_le _, (by repeat' (first | with_reducible exact Below.refl _ _ | with_reducible assumption | with_reducible refine Below.alloc ?_ ?_ _ | with_reducible refine Below.drew ?_ | with_reducible refine Below.setCell ?_ ?_ _ | omega | (simp; omega) | (simp; done)))⟩
  | true =>
    cases q1 with
    | true =>
      refine wp_region_quiet_below (by kernel_rfl) (by kernel_rfl) ?_
      repeat (go_big_quiet_step (with_reducible exact cS _ _))
      refine wpQuiet_nil ?_
      intro _ hw'
      obtain ⟨⟨dq, osq⟩, hw''⟩ := hw'
      subst hw''
      have kq := below_regrown W dq osq
      clear ex cS
      generalize Sort.grow (redrawn W dq) osq = U at *
      have lx_ := lt_of_block x
      have ly_ := lt_of_block y
      have lz_ := lt_of_block z
      replace x := carryB kq lx_ x
      replace y := carryB kq ly_ y
      replace z := carryB kq lz_ z
      replace K := below_next K kq
      replace hs := Nat.le_trans hs kq.size
      clear kq lx_ ly_ lz_
      clear hql hq1 hq2
      have cx := cell_of_block x
      have fx := unfrozen_of_block x
      have lx := lt_of_block x
      have cy := cell_of_block y
      have fy := unfrozen_of_block y
      have ly := lt_of_block y
      have cz := cell_of_block z
      have fz := unfrozen_of_block z
      have lz := lt_of_block z
      go_wp2_with fail
      refine bodyPost_ret (v := .tuple #[.agg #[.int .i64 r.me, .int .i64 r.view, .bool r.live, .int .i64 r.nx, .slice r.ta r.tk.length r.tc, .slice r.ha r.hd.length r.hc, .slice r.da r.dn.length r.dc], .slice none 0 0]) (by simp [results, Try.results94, go_sem, cz]) rfl ?_
      refine ⟨r, none, 0, [], rfl, HO.out.below (by repeat' (first | with_reducible exact Below.refl _ _ | with_reducible assumption | with_reducible refine Below.alloc ?_ ?_ _ | with_reducible refine Below.drew ?_ | with_reducible refine Below.setCell ?_ ?_ _ | omega | (simp; omega) | (simp; done))), HF.out.more (by omega) (Nat.le_refl _), fun V' _ => isMs_nil _ _ _ (Nat.zero_le _), (fun z hz => nomatch hz), Nat.zero_le _, (by repeat' (first | with_reducible exact Below.refl _ _ | with_reducible assumption | with_reducible refine Below.alloc ?_ ?_ _ | with_reducible refine Below.drew ?_ | with_reducible refine Below.setCell ?_ ?_ _ | omega | (simp; omega) | (simp; done)))⟩
    | false =>
      cases q2 with
      | true =>
        refine wp_region_quiet_below (by kernel_rfl) (by kernel_rfl) ?_
        repeat (go_big_quiet_step (with_reducible exact cS _ _))
        refine wpQuiet_nil ?_
        intro _ hw'
        obtain ⟨⟨dq, osq⟩, hw''⟩ := hw'
        subst hw''
        have kq := below_regrown W dq osq
        clear ex cS
        generalize Sort.grow (redrawn W dq) osq = U at *
        have lx_ := lt_of_block x
        have ly_ := lt_of_block y
        have lz_ := lt_of_block z
        replace x := carryB kq lx_ x
        replace y := carryB kq ly_ y
        replace z := carryB kq lz_ z
        replace K := below_next K kq
        replace hs := Nat.le_trans hs kq.size
        clear kq lx_ ly_ lz_
        clear hql hq1 hq2
        have cx := cell_of_block x
        have fx := unfrozen_of_block x
        have lx := lt_of_block x
        have cy := cell_of_block y
        have fy := unfrozen_of_block y
        have ly := lt_of_block y
        have cz := cell_of_block z
        have fz := unfrozen_of_block z
        have lz := lt_of_block z
        go_wp2_with fail
        refine bodyPost_ret (v := .tuple #[.agg #[.int .i64 r.me, .int .i64 r.view, .bool r.live, .int .i64 r.nx, .slice r.ta r.tk.length r.tc, .slice r.ha r.hd.length r.hc, .slice r.da r.dn.length r.dc], .slice none 0 0]) (by simp [results, Try.results94, go_sem, cz]) rfl ?_
        refine ⟨r, none, 0, [], rfl, HO.out.below (by repeat' (first | with_reducible exact Below.refl _ _ | with_reducible assumption | with_reducible refine Below.alloc ?_ ?_ _ | with_reducible refine Below.drew ?_ | with_reducible refine Below.setCell ?_ ?_ _ | omega | (simp; omega) | (simp; done))), HF.out.more (by omega) (Nat.le_refl _), fun V' _ => isMs_nil _ _ _ (Nat.zero_le _), (fun z hz => nomatch hz), Nat.zero_le _, (by repeat' (first | with_reducible exact Below.refl _ _ | with_reducible assumption | with_reducible refine Below.alloc ?_ ?_ _ | with_reducible refine Below.drew ?_ | with_reducible refine Below.setCell ?_ ?_ _ | omega | (simp; omega) | (simp; done)))⟩
      | false =>
        refine wp_region_quiet_below (by kernel_rfl) (by kernel_rfl) ?_
        repeat (go_big_quiet_step (with_reducible exact cS _ _))
        refine wpQuiet_nil ?_
        intro _ hw'
        obtain ⟨⟨dq, osq⟩, hw''⟩ := hw'
        subst hw''
        have kq := below_regrown W dq osq
        clear ex cS
        generalize Sort.grow (redrawn W dq) osq = U at *
        have lx_ := lt_of_block x
        have ly_ := lt_of_block y
        have lz_ := lt_of_block z
        replace x := carryB kq lx_ x
        replace y := carryB kq ly_ y
        replace z := carryB kq lz_ z
        replace K := below_next K kq
        replace hs := Nat.le_trans hs kq.size
        clear kq lx_ ly_ lz_
        clear hql hq1 hq2
        have hs0 := hs
        have cx := cell_of_block x
        have fx := unfrozen_of_block x
        have lx := lt_of_block x
        have cy := cell_of_block y
        have fy := unfrozen_of_block y
        have ly := lt_of_block y
        have cz := cell_of_block z
        have fz := unfrozen_of_block z
        have lz := lt_of_block z
        go_wp2_with fail
        go_loopw [6] (fun i wr => ∃ k : Nat, k ≤ r.tk.length ∧ i = .int .i64 k ∧ wr.heap[w.heap.size]? = some (.cells #[.int .i64 r.me, .int .i64 r.view, .bool r.live, .int .i64 r.nx, .slice r.ta r.tk.length r.tc, .slice r.ha r.hd.length r.hc, .slice r.da r.dn.length r.dc] 78 (0, 0)) ∧ wr.heap[w.heap.size + 1]? = some (.cells #[.int .i64 m.k, .int .i64 m.f, .int .i64 m.v, .int .i64 m.s, .int .i64 m.r.c, .int .i64 m.r.n, .int .i64 m.r.o, .int .i64 m.r.x, .int .i64 m.r.y, .slice am m.cl.length cm, .slice bm m.vs.length dm] 34 (0, 0)) ∧ wr.heap[w.heap.size + 2]? = some (.cells #[.int .i64 0, .int .i64 0, .bool false, .int .i64 0, .slice none 0 0, .slice none 0 0, .slice none 0 0] 78 (0, 0)) ∧ W.heap.size ≤ wr.heap.size ∧ Below w.heap.size w wr) (fun i _ => r.tk.length - (intOf i).toNat)
        case atStart => exact ⟨0, Nat.zero_le _, rfl, x, y, z, hs, K⟩
        case round =>
          clear cx fx lx cy fy ly cz fz lz
          clear x y z K hs hs0
          obtain ⟨k, hk, rfl, x, y, z, hs, K⟩ := hrel
          by_cases hlt2 : k < r.tk.length
          · have hk1 : (k : Int) < (r.tk.length : Int) := by omega
            have hk0 : (0 : Int) ≤ (k : Int) := by omega
            obtain ⟨b1, o1, ea, hl1, hd0⟩ := seven_at HT.out k hlt2
            obtain ⟨d0, d1, d2, d3, d4, d5, d6⟩ := hd0 wr K
            clear hd0
            generalize r.tk[k] = c at *
            have EA := Lib.hid ea
            rw [ea] at x
            clear ea
            have ex := cellRe x
            have ey := cellRe y
            have e1 := cell_regrown d1
            have e2 := cell_regrown d2
            have e3 := cell_regrown d3
            have e4 := cell_regrown d4
            have e5 := cell_regrown d5
            have e6 := cell_regrown d6
            clear d0 d1 d2 d3 d4 d5 d6
            obtain ⟨p1, hp1⟩ : ∃ q, eqR c.r.c c.r.n c.r.o c.r.x c.r.y m.r.c m.r.n m.r.o m.r.x m.r.y = q := ⟨_, rfl⟩
            obtain ⟨p2, hp2⟩ : ∃ q, (c.v == r.view) = q := ⟨_, rfl⟩
            have cx := cell_of_block x
            have fx := unfrozen_of_block x
            have lx := lt_of_block x
            have cy := cell_of_block y
            have fy := unfrozen_of_block y
            have ly := lt_of_block y
            cases p1 with
            | true =>
              cases p2 with
              | true =>
                go_wp2_with fail
                refine wp_region_quiet_below (by kernel_rfl) (by kernel_rfl) ?_
                repeat (go_big_quiet_step ((fail)))
                refine wpQuiet_nil ?_
                intro _ hw'
                obtain ⟨⟨dq, osq⟩, hw''⟩ := hw'
                subst hw''
                have kq := below_regrown wr dq osq
                clear ex ey e1 e2 e3 e4 e5 e6 cx fx lx cy fy ly
                generalize Sort.grow (redrawn wr dq) osq = U at *
                have lx_ := lt_of_block x
                have ly_ := lt_of_block y
                have lz_ := lt_of_block z
                replace x := carryB kq lx_ x
                replace y := carryB kq ly_ y
                replace z := carryB kq lz_ z
                replace K := below_next K kq
                replace hs := Nat.le_trans hs kq.size
                clear kq lx_ ly_ lz_
                rw [← EA.out] at x
                clear EA
                have cx := cell_of_block x
                have fx := unfrozen_of_block x
                have lx := lt_of_block x
                have cy := cell_of_block y
                have fy := unfrozen_of_block y
                have ly := lt_of_block y
                have cz := cell_of_block z
                have fz := unfrozen_of_block z
                have lz := lt_of_block z
                go_wp2_with fail
                refine bodyPost_ret (v := .tuple #[.agg #[.int .i64 r.me, .int .i64 r.view, .bool r.live, .int .i64 r.nx, .slice r.ta r.tk.length r.tc, .slice r.ha r.hd.length r.hc, .slice r.da r.dn.length r.dc], .slice none 0 0]) (by simp [results, Try.results94, go_sem, cz]) rfl ?_
                refine ⟨r, none, 0, [], rfl, HO.out.below (by repeat' (first | with_reducible exact Below.refl _ _ | with_reducible assumption | with_reducible refine Below.alloc ?_ ?_ _ | with_reducible refine Below.drew ?_ | with_reducible refine Below.setCell ?_ ?_ _ | omega | (simp; omega) | (simp; done))), HF.out.more (by omega) (Nat.le_refl _), fun V' _ => isMs_nil _ _ _ (Nat.zero_le _), (fun z hz => nomatch hz), Nat.zero_le _, (by repeat' (first | with_reducible exact Below.refl _ _ | with_reducible assumption | with_reducible refine Below.alloc ?_ ?_ _ | with_reducible refine Below.drew ?_ | with_reducible refine Below.setCell ?_ ?_ _ | omega | (simp; omega) | (simp; done)))⟩
              | false =>
                go_wp2_with fail
                refine wp_region_quiet_below (by kernel_rfl) (by kernel_rfl) ?_
                repeat (go_big_quiet_step ((fail)))
                refine wpQuiet_nil ?_
                intro _ hw'
                obtain ⟨⟨dq, osq⟩, hw''⟩ := hw'
                subst hw''
                have kq := below_regrown wr dq osq
                clear ex ey e1 e2 e3 e4 e5 e6 cx fx lx cy fy ly
                generalize Sort.grow (redrawn wr dq) osq = U at *
                have lx_ := lt_of_block x
                have ly_ := lt_of_block y
                have lz_ := lt_of_block z
                replace x := carryB kq lx_ x
                replace y := carryB kq ly_ y
                replace z := carryB kq lz_ z
                replace K := below_next K kq
                replace hs := Nat.le_trans hs kq.size
                clear kq lx_ ly_ lz_
                rw [← EA.out] at x
                clear EA
                have X_ := Lib.hid x
                have Y_ := Lib.hid y
                have Z_ := Lib.hid z
                have K_ := Lib.hid K
                clear x y z K
                go_wp2_with fail
                go_roundw
                case rel => exact ⟨k + 1, by omega, by go_num, X_.out, Y_.out, Z_.out, hs, K_.out⟩
                case measure => simp [intOf]; omega
            | false =>
              go_wp2_with fail
              refine wp_region_quiet_below (by kernel_rfl) (by kernel_rfl) ?_
              repeat (go_big_quiet_step ((fail)))
              refine wpQuiet_nil ?_
              intro _ hw'
              obtain ⟨⟨dq, osq⟩, hw''⟩ := hw'
              subst hw''
              have kq := below_regrown wr dq osq
              clear ex ey e1 e2 e3 e4 e5 e6 cx fx lx cy fy ly
              generalize Sort.grow (redrawn wr dq) osq = U at *
              have lx_ := lt_of_block x
              have ly_ := lt_of_block y
              have lz_ := lt_of_block z
              replace x := carryB kq lx_ x
              replace y := carryB kq ly_ y
              replace z := carryB kq lz_ z
              replace K := below_next K kq
              replace hs := Nat.le_trans hs kq.size
              clear kq lx_ ly_ lz_
              rw [← EA.out] at x
              clear EA
              have X_ := Lib.hid x
              have Y_ := Lib.hid y
              have Z_ := Lib.hid z
              have K_ := Lib.hid K
              clear x y z K
              go_wp2_with fail
              go_roundw
              case rel => exact ⟨k + 1, by omega, by go_num, X_.out, Y_.out, Z_.out, hs, K_.out⟩
              case measure => simp [intOf]; omega
          · have hkf : ¬ ((k : Int) < (r.tk.length : Int)) := by omega
            have cx := cell_of_block x
            have fx := unfrozen_of_block x
            have lx := lt_of_block x
            have cy := cell_of_block y
            have fy := unfrozen_of_block y
            have ly := lt_of_block y
            have cz := cell_of_block z
            have fz := unfrozen_of_block z
            have lz := lt_of_block z
            go_upto_region 9 with fail
            obtain ⟨V, hV, sV, v, kV⟩ := blocks1 wr (.cells #[.int .i64 r.nx, .int .i64 r.view, .int .i64 m.r.c, .int .i64 m.r.n, .int .i64 m.r.o, .int .i64 m.r.x, .int .i64 m.r.y] 62)
            rw [← hV]
            clear hV sV
            clear cx fx lx cy fy ly cz fz lz
            replace x := carryB kV (lt_of_block x) x
            replace z := carryB kV (lt_of_block z) z
            replace K := below_next K kV
            have hvr := hs
            replace hs := Nat.le_trans hs kV.size
            clear kV y
            have cx := cell_of_block x
            have fx := unfrozen_of_block x
            have lx := lt_of_block x
            obtain ⟨nx2, hnx2⟩ : ∃ n, IntKind.i64.wrap (r.nx + 1) = n := ⟨_, rfl⟩
            go_upto_region 10 with fail
            obtain ⟨V1, hV_, sV, xV, oV, kV⟩ := stored1 V w.heap.size 3 (.int .i64 nx2) x
            rw [← hV_]
            clear hV_ hnx2
            clear cx fx lx
            have x2 : V1.heap[w.heap.size]? = some (.cells #[.int .i64 r.me, .int .i64 r.view, .bool r.live, .int .i64 nx2, .slice r.ta r.tk.length r.tc, .slice r.ha r.hd.length r.hc, .slice r.da r.dn.length r.dc] 78 (0, 0)) := by simpa using xV
            replace z := (oV _ (by omega)).trans z
            replace v := (oV _ (by omega)).trans v
            replace K := K.trans (kV.mono (by omega))
            replace hs : W.heap.size ≤ V1.heap.size := by omega
            clear x xV oV kV sV
            have R0 := Lib.hid (show Rob X1 (Rk.ok ⟨r.me, r.view, r.live, nx2, r.ta, r.tc, r.tk, r.ha, r.hc, r.hd, r.da, r.dc, r.dn⟩) V1 from hbx _ _ K HO.out)
            have F0 := Lib.hid (show Rk.fit T D ⟨r.me, r.view, r.live, nx2, r.ta, r.tc, r.tk, r.ha, r.hc, r.hd, r.da, r.dc, r.dn⟩ from ⟨HF.out.me0, HF.out.me3, HF.out.tk, HF.out.hd, HF.out.ms, HF.out.dn⟩)
            have cx2 := cell_of_block x2
            have fx2 := unfrozen_of_block x2
            have lx2 := lt_of_block x2
            have cv := cell_of_block v
            have fv := unfrozen_of_block v
            have lv := lt_of_block v
            go_wp2_with fail
            refine (l5Take_c X1 T D ⟨r.me, r.view, r.live, nx2, r.ta, r.tc, r.tk, r.ha, r.hc, r.hd, r.da, r.dc, r.dn⟩ ⟨r.nx, r.view, m.r⟩ V1 R0.out F0.out (fun b hb => Nat.lt_of_lt_of_le (hlt b hb) hs) (by omega)).mono ?_
            rintro e V2 ⟨r2, rfl, hr2, hf2, k2_⟩
            clear cx2 fx2 lx2 cv fv lv
            have lv_ := lt_of_block v
            replace x2 := carryB k2_ (lt_of_block x2) x2
            replace z := carryB k2_ (lt_of_block z) z
            replace v := carryB k2_ lv_ v
            have R2 := Lib.hid hr2
            have F2 := Lib.hid hf2
            replace K := below_next K k2_
            replace hs := Nat.le_trans hs k2_.size
            clear k2_ lv_ hr2 hf2 R0 F0
            have cx2 := cell_of_block x2
            have fx2 := unfrozen_of_block x2
            have lx2 := lt_of_block x2
            go_upto_region 11 with fail
            obtain ⟨M, hV_, sV, xV, oV, kV⟩ := stored7 V2 w.heap.size _ _ _ _ _ _ _ (.int .i64 r2.me) (.int .i64 r2.view) (.bool r2.live) (.int .i64 r2.nx) (.slice r2.ta r2.tk.length r2.tc) (.slice r2.ha r2.hd.length r2.hc) (.slice r2.da r2.dn.length r2.dc) x2
            rw [← hV_]
            clear hV_
            clear cx2 fx2 lx2
            replace z := (oV _ (by omega)).trans z
            replace v := (oV _ (by omega)).trans v
            replace R2 := Lib.hid (R2.out.stored sV oV (hin _ (by omega) (by omega)))
            have KM := Lib.hid (K.trans (kV.mono (by omega)))
            have hsM : W.heap.size ≤ M.heap.size := by omega
            have x := xV
            have hBW := Nat.le_refl M.heap.size
            clear x2 xV oV kV sV K hs
            have hne_ : ¬ (wr.heap.size = w.heap.size + 1 + 1) := by omega
            have hne0_ : ¬ (w.heap.size = w.heap.size + 1 + 1) := by omega
            have cx := cell_of_block x
            have fx := unfrozen_of_block x
            have lx := lt_of_block x
            have cv := cell_of_block v
            have fv := unfrozen_of_block v
            have lv := lt_of_block v
            have cz := cell_of_block z
            have fz := unfrozen_of_block z
            have lz := lt_of_block z
            refine wp_region_L (fun w' => (∀ b o, b < M.heap.size → b ≠ w.heap.size + 1 + 1 → w'.cell? ⟨b, o, none⟩ = M.cell? ⟨b, o, none⟩) ∧ M.heap.size ≤ w'.heap.size) [] (by kernel_rfl) ?_
            obtain ⟨M_0, hw_, kw_⟩ : ∃ wd, wd = M.drew ∧ Below M.heap.size M wd := ⟨_, rfl, Below.drew (Below.refl _ _)⟩
            rw [← hw_]
            clear hw_
            have hS := KE.next hBW (KE.refl M.heap.size (w.heap.size + 1 + 1) M) kw_
            replace x := carryB kw_ (lt_of_block x) x
            replace v := carryB kw_ (lt_of_block v) v
            replace z := carryB kw_ (lt_of_block z) z
            replace KM := Lib.hid (below_next KM.out kw_)
            replace R2 := Lib.hid (R2.out.below kw_)
            clear kw_
            refine wpAnyL_take (i := 0) (oi := _) (v := ?_) (by (simp only [List.getElem?_toArray]; rfl)) (by kernel_rfl) (by kernel_rfl) (by kernel_rfl) (by kernel_rfl) (by exact fun _ _ _ h => h) (Or.inl ⟨by rfl, ?_⟩) (by assumption) ?_
            rotate_left
            · intro wS hSw
              go_simp
              all_goals first | with_reducible rfl | rw [if_neg (by omega)]
            simp only [Act.put, List.setIfInBounds_toArray, List.set]
            refine wpAnyL_take (i := 1) (oi := _) (v := ?_) (by (simp only [List.getElem?_toArray]; rfl)) (by kernel_rfl) (by kernel_rfl) (by kernel_rfl) (by kernel_rfl) (by exact fun _ _ _ h => h) (Or.inl ⟨by rfl, ?_⟩) (by assumption) ?_
            rotate_left
            · intro wS hSw
              go_simp
              all_goals first | with_reducible rfl | rw [if_neg (by omega)]
            simp only [Act.put, List.setIfInBounds_toArray, List.set]
            refine wpAnyL_take (i := 2) (oi := _) (v := ?_) (by (simp only [List.getElem?_toArray]; rfl)) (by kernel_rfl) (by kernel_rfl) (by kernel_rfl) (by kernel_rfl) (by exact fun _ _ _ h => h) (Or.inl ⟨by rfl, ?_⟩) (by assumption) ?_
            rotate_left
            · intro wS hSw
              go_simp
              all_goals first | with_reducible rfl | rw [if_neg (by omega)]
            simp only [Act.put, List.setIfInBounds_toArray, List.set]
            refine wpAnyL_take (i := 3) (oi := _) (v := ?_) (by (simp only [List.getElem?_toArray]; rfl)) (by kernel_rfl) (by kernel_rfl) (by kernel_rfl) (by kernel_rfl) (by exact fun _ _ _ h => h) (Or.inl ⟨by rfl, ?_⟩) (by assumption) ?_
            rotate_left
            · intro wS hSw
              go_simp
              all_goals first | with_reducible rfl | rw [if_neg (by omega)]
            simp only [Act.put, List.setIfInBounds_toArray, List.set]
            refine wpAnyL_take (i := 4) (oi := _) (v := ?_) (by (simp only [List.getElem?_toArray]; rfl)) (by kernel_rfl) (by kernel_rfl) (by kernel_rfl) (by kernel_rfl) (by exact fun _ _ _ h => h) (Or.inl ⟨by rfl, ?_⟩) (by assumption) ?_
            rotate_left
            · intro wS hSw
              go_simp
              all_goals first | with_reducible rfl | rw [if_neg (by omega)]
            simp only [Act.put, List.setIfInBounds_toArray, List.set]
            refine wpAnyL_take (i := 5) (oi := _) (v := ?_) (by (simp only [List.getElem?_toArray]; rfl)) (by kernel_rfl) (by kernel_rfl) (by kernel_rfl) (by kernel_rfl) (by exact fun _ _ _ h => h) (Or.inl ⟨by rfl, ?_⟩) (by assumption) ?_
            rotate_left
            · intro wS hSw
              go_simp
              all_goals first | with_reducible rfl | rw [if_neg (by omega)]
            simp only [Act.put, List.setIfInBounds_toArray, List.set]
            refine wpAnyL_take (i := 6) (oi := _) (v := ?_) (by (simp only [List.getElem?_toArray]; rfl)) (by kernel_rfl) (by kernel_rfl) (by kernel_rfl) (by kernel_rfl) (by exact fun _ _ _ h => h) (Or.inl ⟨by rfl, ?_⟩) (by assumption) ?_
            rotate_left
            · intro wS hSw
              go_simp
              all_goals first | with_reducible rfl | rw [if_neg (by omega)]
            simp only [Act.put, List.setIfInBounds_toArray, List.set]
            refine wpAnyL_take (i := 7) (oi := _) (v := ?_) (by (simp only [List.getElem?_toArray]; rfl)) (by kernel_rfl) (by kernel_rfl) (by kernel_rfl) (by kernel_rfl) (by exact fun _ _ _ h => h) (Or.inl ⟨by rfl, ?_⟩) (by assumption) ?_
            rotate_left
            · intro wS hSw
              go_simp
              all_goals first | with_reducible rfl | rw [if_neg (by omega)]
            simp only [Act.put, List.setIfInBounds_toArray, List.set]
            refine wpAnyL_take (i := 8) (oi := _) (v := ?_) (by (simp only [List.getElem?_toArray]; rfl)) (by kernel_rfl) (by kernel_rfl) (by kernel_rfl) (by kernel_rfl) (by exact fun _ _ _ h => h) (Or.inl ⟨by rfl, ?_⟩) (by assumption) ?_
            rotate_left
            · intro wS hSw
              go_simp
              all_goals first | with_reducible rfl | rw [if_neg (by omega)]
            simp only [Act.put, List.setIfInBounds_toArray, List.set]
            refine wpAnyL_take (i := 9) (oi := _) (v := ?_) (by (simp only [List.getElem?_toArray]; rfl)) (by kernel_rfl) (by kernel_rfl) (by kernel_rfl) (by kernel_rfl) (by exact fun _ _ _ h => h) (Or.inl ⟨by rfl, ?_⟩) (by assumption) ?_
            rotate_left
            · intro wS hSw
              go_simp
              all_goals first | with_reducible rfl | rw [if_neg (by omega)]
            simp only [Act.put, List.setIfInBounds_toArray, List.set]
            refine wpAnyL_ready (rs := [10, 11]) (by kernel_rfl) (by simp) ?_
            refine AllReadyL.cons (o := _) (by (simp only [List.getElem?_toArray]; rfl)) (fun K hK => ?_) ?_
            · skip
              go_simp
              obtain ⟨M_1, hw_, sw_, hv_, kw_⟩ := blocks1 M_0 (.cells #[.int .i64 2, .int .i64 r2.me, .int .i64 r.view, .int .i64 r.nx, .int .i64 m.r.c, .int .i64 m.r.n, .int .i64 m.r.o, .int .i64 m.r.x, .int .i64 m.r.y, .slice none 0 0, .slice none 0 0] 34)
              rw [← hw_]
              clear hw_ sw_
              have hq_ : M.heap.size ≤ M_0.heap.size := Nat.le_trans hBW hS.2
              replace hS := KE.next hBW hS kw_
              replace x := carryB kw_ (lt_of_block x) x
              replace v := carryB kw_ (lt_of_block v) v
              replace z := carryB kw_ (lt_of_block z) z
              replace KM := Lib.hid (below_next KM.out kw_)
              replace R2 := Lib.hid (R2.out.below kw_)
              clear kw_
              have RS := Lib.hid (row_of_block (k := 11) (R := Mg.cs) (zs := [(plainM 2 r2.me r.view r.nx m.r)]) (fun _ => rfl) (show M_1.heap[M_0.heap.size]? = some (.cells (flat Mg.cs [(plainM 2 r2.me r.view r.nx m.r)]) 34 (0, 0)) from hv_) hq_ (by unfold maxLen; simp))
              clear hv_ hq_
              refine hK.out _ _ (fun _ => hS) ?_
              clear hK K
              try simp only [Act.put, List.setIfInBounds_toArray, List.set]
              refine wpAnyL_ready (rs := [11]) (by kernel_rfl) (by simp) ?_
              refine AllReadyL.cons (o := _) (by (simp only [List.getElem?_toArray]; rfl)) (fun K hK => ?_) AllReadyL.nil
              have cq_ := cell_of_block z
              have fq_ := unfrozen_of_block z
              have lq_ := lt_of_block z
              go_simp
              obtain ⟨M_2, hV_, sV_, zV_, oV_, kV_⟩ := stored7 M_1 (w.heap.size + 1 + 1) _ _ _ _ _ _ _ (.int .i64 r2.me) (.int .i64 r2.view) (.bool r2.live) (.int .i64 r2.nx) (.slice r2.ta r2.tk.length r2.tc) (.slice r2.ha r2.hd.length r2.hc) (.slice r2.da r2.dn.length r2.dc) z
              rw [← hV_]
              clear hV_ cq_ fq_ lq_
              replace R2 := Lib.hid (R2.out.stored sV_ oV_ (hin _ (by omega) (by omega)))
              replace RS := Lib.hid (RS.out.later sV_ oV_ (by omega))
              replace x := (oV_ _ (by omega)).trans x
              replace v := (oV_ _ (by omega)).trans v
              replace z := zV_
              replace KM := Lib.hid (KM.out.trans (kV_.mono (by omega)))
              replace hS := KE.store hS sV_ oV_
              clear kV_ oV_ sV_ zV_
              refine hK.out _ _ (fun _ => hS) ?_
              clear hK K
              try simp only [Act.put, List.setIfInBounds_toArray, List.set]
              refine wpAnyL_take (i := 12) (oi := _) (v := ?_) (by (simp only [List.getElem?_toArray]; rfl)) (by kernel_rfl) (by kernel_rfl) (by kernel_rfl) (by kernel_rfl) (by exact fun _ _ _ h => h) (Or.inl ⟨by rfl, ?_⟩) (by assumption) ?_
              rotate_left
              · intro wS hSw
                go_simp
                all_goals first | with_reducible rfl | rw [if_neg (by omega)]
              simp only [Act.put, List.setIfInBounds_toArray, List.set]
              refine wpAnyL_done (by kernel_rfl) ?_ _
              clear hS cx fx lx cv fv lv cz fz lz hne_ hne0_ x v
              go_wp2_with fail
              have czP := cell_of_block z
              refine bodyPost_ret (v := .tuple #[.agg #[.int .i64 r2.me, .int .i64 r2.view, .bool r2.live, .int .i64 r2.nx, .slice r2.ta r2.tk.length r2.tc, .slice r2.ha r2.hd.length r2.hc, .slice r2.da r2.dn.length r2.dc], .slice (some ⟨M_0.heap.size, 0, none⟩) 1 1]) (by simp [results, Try.results94, go_sem, czP]) rfl ?_
              refine ⟨r2, some ⟨M_0.heap.size, 0, none⟩, 1, [(plainM 2 r2.me r.view r.nx m.r)], rfl, R2.out.weak hsub, F2.out, ?_, fit_one (plainM_fit _ _ _ _ _), Nat.le_refl _, KM.out⟩
              exact (RS.out.robX eleven_len (fun b hb => Nat.lt_of_lt_of_le (hlt b (hsub b hb)) hsM)).imp fun V' h' => isMs_one h' (plainM_ok _ _ _ _ _ _)
            refine AllReadyL.cons (o := _) (by (simp only [List.getElem?_toArray]; rfl)) (fun K hK => ?_) ?_
            · skip
              have cq_ := cell_of_block z
              have fq_ := unfrozen_of_block z
              have lq_ := lt_of_block z
              go_simp
              obtain ⟨M_1, hV_, sV_, zV_, oV_, kV_⟩ := stored7 M_0 (w.heap.size + 1 + 1) _ _ _ _ _ _ _ (.int .i64 r2.me) (.int .i64 r2.view) (.bool r2.live) (.int .i64 r2.nx) (.slice r2.ta r2.tk.length r2.tc) (.slice r2.ha r2.hd.length r2.hc) (.slice r2.da r2.dn.length r2.dc) z
              rw [← hV_]
              clear hV_ cq_ fq_ lq_
              replace R2 := Lib.hid (R2.out.stored sV_ oV_ (hin _ (by omega) (by omega)))
              replace x := (oV_ _ (by omega)).trans x
              replace v := (oV_ _ (by omega)).trans v
              replace z := zV_
              replace KM := Lib.hid (KM.out.trans (kV_.mono (by omega)))
              replace hS := KE.store hS sV_ oV_
              clear kV_ oV_ sV_ zV_
              refine hK.out _ _ (fun _ => hS) ?_
              clear hK K
              try simp only [Act.put, List.setIfInBounds_toArray, List.set]
              refine wpAnyL_ready (rs := [10]) (by kernel_rfl) (by simp) ?_
              refine AllReadyL.cons (o := _) (by (simp only [List.getElem?_toArray]; rfl)) (fun K hK => ?_) AllReadyL.nil
              go_simp
              obtain ⟨M_2, hw_, sw_, hv_, kw_⟩ := blocks1 M_1 (.cells #[.int .i64 2, .int .i64 r2.me, .int .i64 r.view, .int .i64 r.nx, .int .i64 m.r.c, .int .i64 m.r.n, .int .i64 m.r.o, .int .i64 m.r.x, .int .i64 m.r.y, .slice none 0 0, .slice none 0 0] 34)
              rw [← hw_]
              clear hw_ sw_
              have hq_ : M.heap.size ≤ M_1.heap.size := Nat.le_trans hBW hS.2
              replace hS := KE.next hBW hS kw_
              replace x := carryB kw_ (lt_of_block x) x
              replace v := carryB kw_ (lt_of_block v) v
              replace z := carryB kw_ (lt_of_block z) z
              replace KM := Lib.hid (below_next KM.out kw_)
              replace R2 := Lib.hid (R2.out.below kw_)
              clear kw_
              have RS := Lib.hid (row_of_block (k := 11) (R := Mg.cs) (zs := [(plainM 2 r2.me r.view r.nx m.r)]) (fun _ => rfl) (show M_2.heap[M_1.heap.size]? = some (.cells (flat Mg.cs [(plainM 2 r2.me r.view r.nx m.r)]) 34 (0, 0)) from hv_) hq_ (by unfold maxLen; simp))
              clear hv_ hq_
              refine hK.out _ _ (fun _ => hS) ?_
              clear hK K
              try simp only [Act.put, List.setIfInBounds_toArray, List.set]
              refine wpAnyL_take (i := 12) (oi := _) (v := ?_) (by (simp only [List.getElem?_toArray]; rfl)) (by kernel_rfl) (by kernel_rfl) (by kernel_rfl) (by kernel_rfl) (by exact fun _ _ _ h => h) (Or.inl ⟨by rfl, ?_⟩) (by assumption) ?_
              rotate_left
              · intro wS hSw
                go_simp
                all_goals first | with_reducible rfl | rw [if_neg (by omega)]
              simp only [Act.put, List.setIfInBounds_toArray, List.set]
              refine wpAnyL_done (by kernel_rfl) ?_ _
              clear hS cx fx lx cv fv lv cz fz lz hne_ hne0_ x v
              go_wp2_with fail
              have czP := cell_of_block z
              refine bodyPost_ret (v := .tuple #[.agg #[.int .i64 r2.me, .int .i64 r2.view, .bool r2.live, .int .i64 r2.nx, .slice r2.ta r2.tk.length r2.tc, .slice r2.ha r2.hd.length r2.hc, .slice r2.da r2.dn.length r2.dc], .slice (some ⟨M_1.heap.size, 0, none⟩) 1 1]) (by simp [results, Try.results94, go_sem, czP]) rfl ?_
              refine ⟨r2, some ⟨M_1.heap.size, 0, none⟩, 1, [(plainM 2 r2.me r.view r.nx m.r)], rfl, R2.out.weak hsub, F2.out, ?_, fit_one (plainM_fit _ _ _ _ _), Nat.le_refl _, KM.out⟩
              exact (RS.out.robX eleven_len (fun b hb => Nat.lt_of_lt_of_le (hlt b (hsub b hb)) hsM)).imp fun V' h' => isMs_one h' (plainM_ok _ _ _ _ _ _)
            exact AllReadyL.nil
end Go.Proofs.Ytgdhieffjflejaa
