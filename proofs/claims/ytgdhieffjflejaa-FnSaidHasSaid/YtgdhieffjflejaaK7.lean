/- A keeper that hears an offer (l5Offer); condition: small sizes. -/
import Derived.Test.YtgdhieffjflejaaK6
set_option linter.unusedSimpArgs false
set_option linter.unusedVariables false
namespace Go.Proofs.Ytgdhieffjflejaa
open Go.RowKit Go.Joins

set_option maxRecDepth 100000 in
set_option maxHeartbeats 16000000 in
theorem l5Offer_c (X : Nat → Prop) (T D : Nat) (r : Rk) (va vb : Value) (m : Mg) (ms : List Mg) (w : World) (h : Rob X r.ok w) (hf : r.fit T D) (hm : IsMg w va m) (hms : IsMs w vb ms) (hX : ∀ b, X b → b < w.heap.size) (hT : T ≤ 999999) :
    Calls Try.prog 95 #[.agg #[.int .i64 r.me, .int .i64 r.view, .bool r.live, .int .i64 r.nx, .slice r.ta r.tk.length r.tc, .slice r.ha r.hd.length r.hc, .slice r.da r.dn.length r.dc], va, vb] w (KeepSays X (T + 1) D 1 w) := by
  have HO := Lib.hid h
  have HF := Lib.hid hf
  have HMS := Lib.hid hms
  obtain ⟨rfl, ⟨am, cm, em, -⟩, ⟨bm, dm, fm, -⟩, -⟩ := hm
  obtain ⟨⟨as_, cs_, rfl, -⟩, -⟩ := hms
  simp only [Mg.cs, em, fm]
  clear h hf em fm
  go_enter Try.func95, Try.ntmps95
  go_upto_region 1 with fail
  obtain ⟨W, hW_, sW, x, y, z, kW⟩ := blocks3 w (.cells #[.int .i64 r.me, .int .i64 r.view, .bool r.live, .int .i64 r.nx, .slice r.ta r.tk.length r.tc, .slice r.ha r.hd.length r.hc, .slice r.da r.dn.length r.dc] 78) (.cells #[.int .i64 m.k, .int .i64 m.f, .int .i64 m.v, .int .i64 m.s, .int .i64 m.r.c, .int .i64 m.r.n, .int .i64 m.r.o, .int .i64 m.r.x, .int .i64 m.r.y, .slice am m.cl.length cm, .slice bm m.vs.length dm] 34) (.cells #[.int .i64 0, .int .i64 0, .bool false, .int .i64 0, .slice none 0 0, .slice none 0 0, .slice none 0 0] 78)
  rw [← hW_]
  clear hW_
  have hsW : w.heap.size + 3 ≤ W.heap.size := by omega
  obtain ⟨X1, hlt, hin, hsub, hbx⟩ : ∃ X1 : Nat → Prop, (∀ b, X1 b → b < W.heap.size) ∧ (∀ b, w.heap.size ≤ b → b < W.heap.size → X1 b) ∧ (∀ b, X b → X1 b) ∧ ∀ (F : World → Prop) (V : World), Below w.heap.size w V → Rob X F w → Rob X1 F V :=
    ⟨Bx X w.heap.size W.heap.size, Bx.lt hX (by omega), fun b h1 h2 => .inr ⟨h1, h2⟩, fun b hb => .inl hb, fun F V hV hF => hF.box hV _⟩
  clear sW
  have cx := cell_of_block x
  have fx := unfrozen_of_block x
  have lx := lt_of_block x
  have cy := cell_of_block y
  have fy := unfrozen_of_block y
  have ly := lt_of_block y
  have cz := cell_of_block z
  have fz := unfrozen_of_block z
  have lz := lt_of_block z
  go_wp2_with fail
  refine (l5Took_w r m.v m.s W (HO.out.below kW).out).mono ?_
  rintro e w1 ⟨tq, took, rfl, k1⟩
  clear cx fx lx cy fy ly cz fz lz
  have lz_ := lt_of_block z
  replace x := carryB k1 (lt_of_block x) x
  replace y := carryB k1 (lt_of_block y) y
  replace z := carryB k1 lz_ z
  have K1 := below_next kW k1
  have hs1 : W.heap.size ≤ w1.heap.size := k1.size
  clear k1 kW lz_
  go_upto_region 2 with fail
  obtain ⟨V, hV, sV, v, kV⟩ := blocks1 w1 (.cells #[.int .i64 tq.c, .int .i64 tq.n, .int .i64 tq.o, .int .i64 tq.x, .int .i64 tq.y] 30)
  rw [← hV]
  clear hV sV v
  have lz_ := lt_of_block z
  replace x := carryB kV (lt_of_block x) x
  replace y := carryB kV (lt_of_block y) y
  replace z := carryB kV lz_ z
  have K := below_next K1 kV
  have hs := Nat.le_trans hs1 kV.size
  clear kV K1 hs1 lz_
  have cS := quietC (w := V) (fun U _ => l3Leader_c m.v U)
  have cA := quietC (w := V) (fun U hU => l4Asked_c _ ms m.r U (HMS.out.below (below_next K hU)))
  have ex := cellRe x
  have ey := cellRe y
  obtain ⟨ql, hql⟩ : ∃ q, r.live = q := ⟨_, rfl⟩
  obtain ⟨q1, hq1⟩ : ∃ q, (m.v != r.view) = q := ⟨_, rfl⟩
  obtain ⟨q2, hq2⟩ : ∃ q, (m.f != leadN m.v) = q := ⟨_, rfl⟩
  obtain ⟨q3, hq3⟩ : ∃ q, (m.f == r.me) = q := ⟨_, rfl⟩
  generalize hasM ms (askM m.r) = q5 at cA
  cases ql with
  | true =>
    cases q1 with
    | true =>
      refine wp_region_quiet_below (by kernel_rfl) (by kernel_rfl) ?_
      repeat (go_big_quiet_step (first | with_reducible exact cS _ _ | with_reducible exact cA _ _))
      refine wpQuiet_nil ?_
      intro _ hw'
      obtain ⟨⟨dq, osq⟩, hw''⟩ := hw'
      subst hw''
      have kq := below_regrown V dq osq
      clear ex ey cS cA
      generalize Sort.grow (redrawn V dq) osq = U at *
      have lx_ := lt_of_block x
      have ly_ := lt_of_block y
      have lz_ := lt_of_block z
      replace x := carryB kq lx_ x
      replace y := carryB kq ly_ y
      replace z := carryB kq lz_ z
      replace K := below_next K kq
      replace hs := Nat.le_trans hs kq.size
      clear kq lx_ ly_ lz_
      clear hql hq1 hq2 hq3
      have cx := cell_of_block x
      have fx := unfrozen_of_block x
      have lx := lt_of_block x
      have cy := cell_of_block y
      have fy := unfrozen_of_block y
      have ly := lt_of_block y
      have cz := cell_of_block z
      have fz := unfrozen_of_block z
      have lz := lt_of_block z
      go_wp2_with fail
      refine bodyPost_ret (v := .tuple #[.agg #[.int .i64 r.me, .int .i64 r.view, .bool r.live, .int .i64 r.nx, .slice r.ta r.tk.length r.tc, .slice r.ha r.hd.length r.hc, .slice r.da r.dn.length r.dc], .slice none 0 0]) (by simp [results, Try.results95, go_sem, cz]) rfl ?_
      refine ⟨r, none, 0, [], rfl, HO.out.below (by repeat' (first | with_reducible exact Below.refl _ _ | with_reducible assumption | with_reducible refine Below.alloc ?_ ?_ _ | with_reducible refine Below.drew ?_ | with_reducible refine Below.setCell ?_ ?_ _ | omega | (simp; omega) | (simp; done))), HF.out.more (by omega) (by omega), fun V' _ => isMs_nil _ _ _ (Nat.zero_le _), (fun z hz => nomatch hz), Nat.zero_le _, (by repeat' (first | with_reducible exact Below.refl _ _ | with_reducible assumption | with_reducible refine Below.alloc ?_ ?_ _ | with_reducible refine Below.drew ?_ | with_reducible refine Below.setCell ?_ ?_ _ | omega | (simp; omega) | (simp; done)))⟩
    | false =>
      cases q2 with
      | true =>
        refine wp_region_quiet_below (by kernel_rfl) (by kernel_rfl) ?_
        repeat (go_big_quiet_step (first | with_reducible exact cS _ _ | with_reducible exact cA _ _))
        refine wpQuiet_nil ?_
        intro _ hw'
        obtain ⟨⟨dq, osq⟩, hw''⟩ := hw'
        subst hw''
        have kq := below_regrown V dq osq
        clear ex ey cS cA
        generalize Sort.grow (redrawn V dq) osq = U at *
        have lx_ := lt_of_block x
        have ly_ := lt_of_block y
        have lz_ := lt_of_block z
        replace x := carryB kq lx_ x
        replace y := carryB kq ly_ y
        replace z := carryB kq lz_ z
        replace K := below_next K kq
        replace hs := Nat.le_trans hs kq.size
        clear kq lx_ ly_ lz_
        clear hql hq1 hq2 hq3
        have cx := cell_of_block x
        have fx := unfrozen_of_block x
        have lx := lt_of_block x
        have cy := cell_of_block y
        have fy := unfrozen_of_block y
        have ly := lt_of_block y
        have cz := cell_of_block z
        have fz := unfrozen_of_block z
        have lz := lt_of_block z
        go_wp2_with fail
        refine bodyPost_ret (v := .tuple #[.agg #[.int .i64 r.me, .int .i64 r.view, .bool r.live, .int .i64 r.nx, .slice r.ta r.tk.length r.tc, .slice r.ha r.hd.length r.hc, .slice r.da r.dn.length r.dc], .slice none 0 0]) (by simp [results, Try.results95, go_sem, cz]) rfl ?_
        refine ⟨r, none, 0, [], rfl, HO.out.below (by repeat' (first | with_reducible exact Below.refl _ _ | with_reducible assumption | with_reducible refine Below.alloc ?_ ?_ _ | with_reducible refine Below.drew ?_ | with_reducible refine Below.setCell ?_ ?_ _ | omega | (simp; omega) | (simp; done))), HF.out.more (by omega) (by omega), fun V' _ => isMs_nil _ _ _ (Nat.zero_le _), (fun z hz => nomatch hz), Nat.zero_le _, (by repeat' (first | with_reducible exact Below.refl _ _ | with_reducible assumption | with_reducible refine Below.alloc ?_ ?_ _ | with_reducible refine Below.drew ?_ | with_reducible refine Below.setCell ?_ ?_ _ | omega | (simp; omega) | (simp; done)))⟩
      | false =>
        cases q3 with
        | true =>
          refine wp_region_quiet_below (by kernel_rfl) (by kernel_rfl) ?_
          repeat (go_big_quiet_step (first | with_reducible exact cS _ _ | with_reducible exact cA _ _))
          refine wpQuiet_nil ?_
          intro _ hw'
          obtain ⟨⟨dq, osq⟩, hw''⟩ := hw'
          subst hw''
          have kq := below_regrown V dq osq
          clear ex ey cS cA
          generalize Sort.grow (redrawn V dq) osq = U at *
          have lx_ := lt_of_block x
          have ly_ := lt_of_block y
          have lz_ := lt_of_block z
          replace x := carryB kq lx_ x
          replace y := carryB kq ly_ y
          replace z := carryB kq lz_ z
          replace K := below_next K kq
          replace hs := Nat.le_trans hs kq.size
          clear kq lx_ ly_ lz_
          clear hql hq1 hq2 hq3
          have cx := cell_of_block x
          have fx := unfrozen_of_block x
          have lx := lt_of_block x
          have cy := cell_of_block y
          have fy := unfrozen_of_block y
          have ly := lt_of_block y
          have cz := cell_of_block z
          have fz := unfrozen_of_block z
          have lz := lt_of_block z
          go_wp2_with fail
          refine bodyPost_ret (v := .tuple #[.agg #[.int .i64 r.me, .int .i64 r.view, .bool r.live, .int .i64 r.nx, .slice r.ta r.tk.length r.tc, .slice r.ha r.hd.length r.hc, .slice r.da r.dn.length r.dc], .slice none 0 0]) (by simp [results, Try.results95, go_sem, cz]) rfl ?_
          refine ⟨r, none, 0, [], rfl, HO.out.below (by repeat' (first | with_reducible exact Below.refl _ _ | with_reducible assumption | with_reducible refine Below.alloc ?_ ?_ _ | with_reducible refine Below.drew ?_ | with_reducible refine Below.setCell ?_ ?_ _ | omega | (simp; omega) | (simp; done))), HF.out.more (by omega) (by omega), fun V' _ => isMs_nil _ _ _ (Nat.zero_le _), (fun z hz => nomatch hz), Nat.zero_le _, (by repeat' (first | with_reducible exact Below.refl _ _ | with_reducible assumption | with_reducible refine Below.alloc ?_ ?_ _ | with_reducible refine Below.drew ?_ | with_reducible refine Below.setCell ?_ ?_ _ | omega | (simp; omega) | (simp; done)))⟩
        | false =>
          cases took with
          | true =>
            refine wp_region_quiet_below (by kernel_rfl) (by kernel_rfl) ?_
            repeat (go_big_quiet_step (first | with_reducible exact cS _ _ | with_reducible exact cA _ _))
            refine wpQuiet_nil ?_
            intro _ hw'
            obtain ⟨⟨dq, osq⟩, hw''⟩ := hw'
            subst hw''
            have kq := below_regrown V dq osq
            clear ex ey cS cA
            generalize Sort.grow (redrawn V dq) osq = U at *
            have lx_ := lt_of_block x
            have ly_ := lt_of_block y
            have lz_ := lt_of_block z
            replace x := carryB kq lx_ x
            replace y := carryB kq ly_ y
            replace z := carryB kq lz_ z
            replace K := below_next K kq
            replace hs := Nat.le_trans hs kq.size
            clear kq lx_ ly_ lz_
            clear hql hq1 hq2 hq3
            have cx := cell_of_block x
            have fx := unfrozen_of_block x
            have lx := lt_of_block x
            have cy := cell_of_block y
            have fy := unfrozen_of_block y
            have ly := lt_of_block y
            have cz := cell_of_block z
            have fz := unfrozen_of_block z
            have lz := lt_of_block z
            go_wp2_with fail
            refine bodyPost_ret (v := .tuple #[.agg #[.int .i64 r.me, .int .i64 r.view, .bool r.live, .int .i64 r.nx, .slice r.ta r.tk.length r.tc, .slice r.ha r.hd.length r.hc, .slice r.da r.dn.length r.dc], .slice none 0 0]) (by simp [results, Try.results95, go_sem, cz]) rfl ?_
            refine ⟨r, none, 0, [], rfl, HO.out.below (by repeat' (first | with_reducible exact Below.refl _ _ | with_reducible assumption | with_reducible refine Below.alloc ?_ ?_ _ | with_reducible refine Below.drew ?_ | with_reducible refine Below.setCell ?_ ?_ _ | omega | (simp; omega) | (simp; done))), HF.out.more (by omega) (by omega), fun V' _ => isMs_nil _ _ _ (Nat.zero_le _), (fun z hz => nomatch hz), Nat.zero_le _, (by repeat' (first | with_reducible exact Below.refl _ _ | with_reducible assumption | with_reducible refine Below.alloc ?_ ?_ _ | with_reducible refine Below.drew ?_ | with_reducible refine Below.setCell ?_ ?_ _ | omega | (simp; omega) | (simp; done)))⟩
          | false =>
            cases q5 with
            | true =>
              refine wp_region_quiet_below (by kernel_rfl) (by kernel_rfl) ?_
              repeat (go_big_quiet_step (first | with_reducible exact cS _ _ | with_reducible exact cA _ _))
              refine wpQuiet_nil ?_
              intro _ hw'
              obtain ⟨⟨dq, osq⟩, hw''⟩ := hw'
              subst hw''
              have kq := below_regrown V dq osq
              clear ex ey cS cA
              generalize Sort.grow (redrawn V dq) osq = U at *
              have lx_ := lt_of_block x
              have ly_ := lt_of_block y
              have lz_ := lt_of_block z
              replace x := carryB kq lx_ x
              replace y := carryB kq ly_ y
              replace z := carryB kq lz_ z
              replace K := below_next K kq
              replace hs := Nat.le_trans hs kq.size
              clear kq lx_ ly_ lz_
              clear hql hq1 hq2 hq3
              have cx := cell_of_block x
              have fx := unfrozen_of_block x
              have lx := lt_of_block x
              have cy := cell_of_block y
              have fy := unfrozen_of_block y
              have ly := lt_of_block y
              have cz := cell_of_block z
              have fz := unfrozen_of_block z
              have lz := lt_of_block z
              go_wp2_with fail
              refine (l5Yes_c X1 T D r ⟨m.s, m.v, m.r⟩ U (hbx _ _ K HO.out) HF.out (fun b hb => Nat.lt_of_lt_of_le (hlt b hb) hs) hT).mono ?_
              rintro e V2 ⟨r2, a2, c2, sy, rfl, hr2, hf2, hsy2, hmf2, hln2, k2_⟩
              clear cx fx lx cy fy ly cz fz lz
              replace z := carryB k2_ (lt_of_block z) z
              have R2 := Lib.hid hr2
              have F2 := Lib.hid hf2
              have S2 := Lib.hid hsy2
              have MF2 := Lib.hid hmf2
              replace K := below_next K k2_
              replace hs := Nat.le_trans hs k2_.size
              clear k2_ hr2 hf2 hsy2 hmf2 x y
              have cz := cell_of_block z
              have fz := unfrozen_of_block z
              have lz := lt_of_block z
              go_wp2_with fail
              refine bodyPost_ret (v := .tuple #[.agg #[.int .i64 r2.me, .int .i64 r2.view, .bool r2.live, .int .i64 r2.nx, .slice r2.ta r2.tk.length r2.tc, .slice r2.ha r2.hd.length r2.hc, .slice r2.da r2.dn.length r2.dc], .slice a2 sy.length c2]) (by simp [results, Try.results95, go_sem, cz]) rfl ?_
              refine ⟨r2, a2, c2, sy, rfl, Rob.weak (X := X1) ?_ hsub, F2.out.more (by omega) (by omega), Rob.weak (X := X1) ?_ hsub, MF2.out, hln2, (by repeat' (first | with_reducible exact Below.refl _ _ | with_reducible assumption | with_reducible refine Below.alloc ?_ ?_ _ | with_reducible refine Below.drew ?_ | with_reducible refine Below.setCell ?_ ?_ _ | omega | (simp; omega) | (simp; done)))⟩
              · have hR := R2.out
                repeat' (first | with_reducible exact hR | refine Rob.setX ?_ (hin _ (by simp only; omega) (by simp only; omega)) _)
              · have hR := S2.out
                repeat' (first | with_reducible exact hR | refine Rob.setX ?_ (hin _ (by simp only; omega) (by simp only; omega)) _)
            | false =>
              refine wp_region_quiet_below (by kernel_rfl) (by kernel_rfl) ?_
              repeat (go_big_quiet_step (first | with_reducible exact cS _ _ | with_reducible exact cA _ _))
              refine wpQuiet_nil ?_
              intro _ hw'
              obtain ⟨⟨dq, osq⟩, hw''⟩ := hw'
              subst hw''
              have kq := below_regrown V dq osq
              clear ex ey cS cA
              generalize Sort.grow (redrawn V dq) osq = U at *
              have lx_ := lt_of_block x
              have ly_ := lt_of_block y
              have lz_ := lt_of_block z
              replace x := carryB kq lx_ x
              replace y := carryB kq ly_ y
              replace z := carryB kq lz_ z
              replace K := below_next K kq
              replace hs := Nat.le_trans hs kq.size
              clear kq lx_ ly_ lz_
              clear hql hq1 hq2 hq3
              have cx := cell_of_block x
              have fx := unfrozen_of_block x
              have lx := lt_of_block x
              have cy := cell_of_block y
              have fy := unfrozen_of_block y
              have ly := lt_of_block y
              have cz := cell_of_block z
              have fz := unfrozen_of_block z
              have lz := lt_of_block z
              go_wp2_with fail
              refine bodyPost_ret (v := .tuple #[.agg #[.int .i64 r.me, .int .i64 r.view, .bool r.live, .int .i64 r.nx, .slice r.ta r.tk.length r.tc, .slice r.ha r.hd.length r.hc, .slice r.da r.dn.length r.dc], .slice none 0 0]) (by simp [results, Try.results95, go_sem, cz]) rfl ?_
              refine ⟨r, none, 0, [], rfl, HO.out.below (by repeat' (first | with_reducible exact Below.refl _ _ | with_reducible assumption | with_reducible refine Below.alloc ?_ ?_ _ | with_reducible refine Below.drew ?_ | with_reducible refine Below.setCell ?_ ?_ _ | omega | (simp; omega) | (simp; done))), HF.out.more (by omega) (by omega), fun V' _ => isMs_nil _ _ _ (Nat.zero_le _), (fun z hz => nomatch hz), Nat.zero_le _, (by repeat' (first | with_reducible exact Below.refl _ _ | with_reducible assumption | with_reducible refine Below.alloc ?_ ?_ _ | with_reducible refine Below.drew ?_ | with_reducible refine Below.setCell ?_ ?_ _ | omega | (simp; omega) | (simp; done)))⟩
  | false =>
    refine wp_region_quiet_below (by kernel_rfl) (by kernel_rfl) ?_
    repeat (go_big_quiet_step (first | with_reducible exact cS _ _ | with_reducible exact cA _ _))
    refine wpQuiet_nil ?_
    intro _ hw'
    obtain ⟨⟨dq, osq⟩, hw''⟩ := hw'
    subst hw''
    have kq := below_regrown V dq osq
    clear ex ey cS cA
    generalize Sort.grow (redrawn V dq) osq = U at *
    have lx_ := lt_of_block x
    have ly_ := lt_of_block y
    have lz_ := lt_of_block z
    replace x := carryB kq lx_ x
    replace y := carryB kq ly_ y
    replace z := carryB kq lz_ z
    replace K := below_next K kq
    replace hs := Nat.le_trans hs kq.size
    clear kq lx_ ly_ lz_
    clear hql hq1 hq2 hq3
    have cx := cell_of_block x
    have fx := unfrozen_of_block x
    have lx := lt_of_block x
    have cy := cell_of_block y
    have fy := unfrozen_of_block y
    have ly := lt_of_block y
    have cz := cell_of_block z
    have fz := unfrozen_of_block z
    have lz := lt_of_block z
    go_wp2_with fail
    refine bodyPost_ret (v := .tuple #[.agg #[.int .i64 r.me, .int .i64 r.view, .bool r.live, .int .i64 r.nx, .slice r.ta r.tk.length r.tc, .slice r.ha r.hd.length r.hc, .slice r.da r.dn.length r.dc], .slice none 0 0]) (by simp [results, Try.results95, go_sem, cz]) rfl ?_
    refine ⟨r, none, 0, [], rfl, HO.out.below (by repeat' (first | with_reducible exact Below.refl _ _ | with_reducible assumption | with_reducible refine Below.alloc ?_ ?_ _ | with_reducible refine Below.drew ?_ | with_reducible refine Below.setCell ?_ ?_ _ | omega | (simp; omega) | (simp; done))), HF.out.more (by omega) (by omega), fun V' _ => isMs_nil _ _ _ (Nat.zero_le _), (fun z hz => nomatch hz), Nat.zero_le _, (by repeat' (first | with_reducible exact Below.refl _ _ | with_reducible assumption | with_reducible refine Below.alloc ?_ ?_ _ | with_reducible refine Below.drew ?_ | with_reducible refine Below.setCell ?_ ?_ _ | omega | (simp; omega) | (simp; done)))⟩
end Go.Proofs.Ytgdhieffjflejaa
