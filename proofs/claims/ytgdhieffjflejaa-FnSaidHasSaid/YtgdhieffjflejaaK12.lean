/- Who is to lead hears who turns (l5Turned); condition: small sizes. -/
import Derived.Test.YtgdhieffjflejaaK10
import Derived.Test.YtgdhieffjflejaaK11
set_option linter.unusedSimpArgs false
set_option linter.unusedVariables false
namespace Go.Proofs.Ytgdhieffjflejaa
open Go.RowKit Go.Joins

theorem KE.bel {B E : Nat} {W w w' : World} (h : (∀ b o, b < B → b ≠ E → w.cell? ⟨b, o, none⟩ = W.cell? ⟨b, o, none⟩) ∧ W.heap.size ≤ w.heap.size) (k : Below B w w') : (∀ b o, b < B → b ≠ E → w'.cell? ⟨b, o, none⟩ = W.cell? ⟨b, o, none⟩) ∧ W.heap.size ≤ w'.heap.size :=
  ⟨fun b o hb hne => (k.cell (p := ⟨b, o, none⟩) hb).trans (h.1 b o hb hne), Nat.le_trans h.2 k.size⟩
/-- A block made anew may turn. -/
theorem Rob.own1 {X : Nat → Prop} {F : World → Prop} {w w' : World} {g : Nat} (h : Rob X F w) (k : Below w.heap.size w w') (hg : w.heap.size ≤ g) (n : Nat) : Rob (OwX X (some ⟨g, 0, none⟩) n) F w' :=
  (h.box k (g + 1)).weak fun b hb => by
    rcases hb with hb | hb
    · exact .inl hb
    · unfold rowBlk at hb
      split at hb
      · exact absurd hb (by simp)
      · have h1 : g = b := by simpa using hb
        exact .inr ⟨by omega, by omega⟩

/-- The letter of who leads. -/
def leadM (f v : Int) (a : Option Addr) (c : Nat) (vs : List Vx) : Mg := ⟨6, f, v, 0, ⟨0, 0, 0, 0, 0⟩, .slice none 0 0, .slice a vs.length c, [], vs⟩

set_option maxRecDepth 100000 in
set_option maxHeartbeats 16000000 in
theorem l5Turned_c (X : Nat → Prop) (T D : Nat) (r : Rk) (va vb : Value) (m : Mg) (ms : List Mg) (w : World) (h : Rob X r.ok w) (hf : r.fit T D) (hm : IsMg w va m) (hmf : m.fit) (hms : IsMs w vb ms) (hmsf : MsFit ms) (hX : ∀ b, X b → b < w.heap.size) (hT : T ≤ 900000) :
    Calls Try.prog 96 #[.agg #[.int .i64 r.me, .int .i64 r.view, .bool r.live, .int .i64 r.nx, .slice r.ta r.tk.length r.tc, .slice r.ha r.hd.length r.hc, .slice r.da r.dn.length r.dc], va, vb] w (KeepSays X (T + 5) D 6 w) := by
  have HO := Lib.hid h
  have HF := Lib.hid hf
  have HMS := Lib.hid hms
  have HMSF := Lib.hid hmsf
  have HVF := Lib.hid hmf.2
  have hvs := hm.2.2
  obtain ⟨rfl, ⟨am, cm, em, -⟩, ⟨bm, dm, fm, -⟩, -⟩ := hm
  rw [fm] at hvs
  have HV := Lib.hid hvs
  obtain ⟨⟨as_, cs_, rfl, -⟩, -⟩ := hms
  simp only [Mg.cs, em, fm]
  clear h hf em fm hvs hmf hmsf
  go_enter Try.func96, Try.ntmps96
  go_upto_region 1 with fail
  obtain ⟨W, hW_, sW, x, y, z, kW⟩ := blocks3 w (.cells #[.int .i64 r.me, .int .i64 r.view, .bool r.live, .int .i64 r.nx, .slice r.ta r.tk.length r.tc, .slice r.ha r.hd.length r.hc, .slice r.da r.dn.length r.dc] 78) (.cells #[.int .i64 m.k, .int .i64 m.f, .int .i64 m.v, .int .i64 m.s, .int .i64 m.r.c, .int .i64 m.r.n, .int .i64 m.r.o, .int .i64 m.r.x, .int .i64 m.r.y, .slice am m.cl.length cm, .slice bm m.vs.length dm] 34) (.cells #[.int .i64 0, .int .i64 0, .bool false, .int .i64 0, .slice none 0 0, .slice none 0 0, .slice none 0 0] 78)
  rw [← hW_]
  clear hW_
  have hsW : w.heap.size + 3 ≤ W.heap.size := by omega
  obtain ⟨X1, hlt, hin, hsub, hbx⟩ : ∃ X1 : Nat → Prop, (∀ b, X1 b → b < W.heap.size) ∧ (∀ b, w.heap.size ≤ b → b < W.heap.size → X1 b) ∧ (∀ b, X b → X1 b) ∧ ∀ (F : World → Prop) (V : World), Below w.heap.size w V → Rob X F w → Rob X1 F V :=
    ⟨Bx X w.heap.size W.heap.size, Bx.lt hX (by omega), fun b h1 h2 => .inr ⟨h1, h2⟩, fun b hb => .inl hb, fun F V hV hF => hF.box hV _⟩
  clear sW
  clear HV HVF
  have K := kW
  have hs : W.heap.size ≤ W.heap.size := Nat.le_refl _
  clear kW
  have cS := quietC (w := W) (fun U _ => l3Leader_c m.v U)
  have cM0 : ∀ U : World, Calls Try.prog 106 #[.agg #[.int .i64 r.me, .int .i64 r.view, .bool r.live, .int .i64 r.nx, .slice r.ta r.tk.length r.tc, .slice r.ha r.hd.length r.hc, .slice r.da r.dn.length r.dc], .int .i64 m.v] U fun e w' => e = .returned (.bool (mayB r m.v)) ∧ Below U.heap.size U w' := fun U => l5May_c r m.v U
  generalize mayB r m.v = q3 at cM0
  have cM := quietC (w := W) (fun U _ => cM0 U)
  clear cM0
  have ex := cellRe x
  have ey := cellRe y
  obtain ⟨q1, hq1⟩ : ∃ q, (leadN m.v != r.me) = q := ⟨_, rfl⟩
  cases q1 with
  | true =>
    refine wp_region_quiet_below (by kernel_rfl) (by kernel_rfl) ?_
    repeat (go_big_quiet_step (first | with_reducible exact cS _ _ | with_reducible exact cM _ _))
    refine wpQuiet_nil ?_
    intro _ hw'
    obtain ⟨⟨dq, osq⟩, hw''⟩ := hw'
    subst hw''
    have kq := below_regrown W dq osq
    clear ex ey cS cM
    generalize Sort.grow (redrawn W dq) osq = U at *
    have lx_ := lt_of_block x
    have ly_ := lt_of_block y
    have lz_ := lt_of_block z
    replace x := carryB kq lx_ x
    replace y := carryB kq ly_ y
    replace z := carryB kq lz_ z
    replace K := below_next K kq
    replace hs := Nat.le_trans hs kq.size
    clear kq lx_ ly_ lz_
    clear hq1
    have cx := cell_of_block x
    have fx := unfrozen_of_block x
    have lx := lt_of_block x
    have cy := cell_of_block y
    have fy := unfrozen_of_block y
    have ly := lt_of_block y
    have cz := cell_of_block z
    have fz := unfrozen_of_block z
    have lz := lt_of_block z
    go_wp2_with fail
    refine bodyPost_ret (v := .tuple #[.agg #[.int .i64 r.me, .int .i64 r.view, .bool r.live, .int .i64 r.nx, .slice r.ta r.tk.length r.tc, .slice r.ha r.hd.length r.hc, .slice r.da r.dn.length r.dc], .slice none 0 0]) (by simp [results, Try.results96, go_sem, cz]) rfl ?_
    refine ⟨r, none, 0, [], rfl, HO.out.below (by repeat' (first | with_reducible exact Below.refl _ _ | with_reducible assumption | with_reducible refine Below.alloc ?_ ?_ _ | with_reducible refine Below.drew ?_ | with_reducible refine Below.setCell ?_ ?_ _ | omega | (simp; omega) | (simp; done))), HF.out.more (by omega) (by omega), fun V' _ => isMs_nil _ _ _ (Nat.zero_le _), (fun z hz => nomatch hz), Nat.zero_le _, (by repeat' (first | with_reducible exact Below.refl _ _ | with_reducible assumption | with_reducible refine Below.alloc ?_ ?_ _ | with_reducible refine Below.drew ?_ | with_reducible refine Below.setCell ?_ ?_ _ | omega | (simp; omega) | (simp; done)))⟩
  | false =>
    cases q3 with
    | true =>
      refine wp_region_quiet_below (by kernel_rfl) (by kernel_rfl) ?_
      repeat (go_big_quiet_step (first | with_reducible exact cS _ _ | with_reducible exact cM _ _))
      refine wpQuiet_nil ?_
      intro _ hw'
      obtain ⟨⟨dq, osq⟩, hw''⟩ := hw'
      subst hw''
      have kq := below_regrown W dq osq
      clear ex ey cS cM
      generalize Sort.grow (redrawn W dq) osq = U at *
      have lx_ := lt_of_block x
      have ly_ := lt_of_block y
      have lz_ := lt_of_block z
      replace x := carryB kq lx_ x
      replace y := carryB kq ly_ y
      replace z := carryB kq lz_ z
      replace K := below_next K kq
      replace hs := Nat.le_trans hs kq.size
      clear kq lx_ ly_ lz_
      clear hq1
      have cx := cell_of_block x
      have fx := unfrozen_of_block x
      have lx := lt_of_block x
      have cy := cell_of_block y
      have fy := unfrozen_of_block y
      have ly := lt_of_block y
      have cz := cell_of_block z
      have fz := unfrozen_of_block z
      have lz := lt_of_block z
      go_wp2_with fail
      refine (l5Votes_c T D r m.v _ ms U (HO.out.below K).out HF.out (HMS.out.below K) HMSF.out).mono ?_
      rintro e V ⟨a1, c1, vs, rfl, hv3, hvf, hvr, k1_⟩
      clear cx fx lx cy fy ly cz fz lz
      have VO := Lib.hid (hvr.ofLo (X := X1) (fun b hb => Nat.lt_of_lt_of_le (hlt b hb) hs))
      have VF := Lib.hid hvf
      clear hvr hvf
      have lx_ := lt_of_block x
      have ly_ := lt_of_block y
      have lz_ := lt_of_block z
      replace x := carryB k1_ lx_ x
      replace y := carryB k1_ ly_ y
      replace z := carryB k1_ lz_ z
      replace K := below_next K k1_
      replace hs := Nat.le_trans hs k1_.size
      clear k1_ lx_ ly_ lz_
      have hneV : ¬ (V.heap.size = w.heap.size + 1 + 1) := by omega
      have cx := cell_of_block x
      have fx := unfrozen_of_block x
      have lx := lt_of_block x
      have cy := cell_of_block y
      have fy := unfrozen_of_block y
      have ly := lt_of_block y
      have cz := cell_of_block z
      have fz := unfrozen_of_block z
      have lz := lt_of_block z
      by_cases h3 : vs.length < 3
      · have h31 : (vs.length : Int) < 3 := by omega
        go_wp2_with fail
        refine bodyPost_ret (v := .tuple #[.agg #[.int .i64 r.me, .int .i64 r.view, .bool r.live, .int .i64 r.nx, .slice r.ta r.tk.length r.tc, .slice r.ha r.hd.length r.hc, .slice r.da r.dn.length r.dc], .slice none 0 0]) (by simp [results, Try.results96, go_sem, cz]) rfl ?_
        refine ⟨r, none, 0, [], rfl, HO.out.below (by repeat' (first | with_reducible exact Below.refl _ _ | with_reducible assumption | with_reducible refine Below.alloc ?_ ?_ _ | with_reducible refine Below.drew ?_ | with_reducible refine Below.setCell ?_ ?_ _ | omega | (simp; omega) | (simp; done))), HF.out.more (by omega) (by omega), fun V' _ => isMs_nil _ _ _ (Nat.zero_le _), (fun z hz => nomatch hz), Nat.zero_le _, (by repeat' (first | with_reducible exact Below.refl _ _ | with_reducible assumption | with_reducible refine Below.alloc ?_ ?_ _ | with_reducible refine Below.drew ?_ | with_reducible refine Below.setCell ?_ ?_ _ | omega | (simp; omega) | (simp; done)))⟩
      · have h31 : ¬ ((vs.length : Int) < 3) := by omega
        go_upto_region 7 with fail
        obtain ⟨V1, hV_, sV1, l, k1_⟩ := blocks1 V (.cells #[.int .i64 6, .int .i64 r.me, .int .i64 m.v, .int .i64 0, .int .i64 0, .int .i64 0, .int .i64 0, .int .i64 0, .int .i64 0, .slice none 0 0, .slice a1 vs.length c1] 34)
        rw [← hV_]
        clear hV_
        clear cx fx lx cy fy ly cz fz lz
        have lx_ := lt_of_block x
        have ly_ := lt_of_block y
        have lz_ := lt_of_block z
        replace x := carryB k1_ lx_ x
        replace y := carryB k1_ ly_ y
        replace z := carryB k1_ lz_ z
        replace VO := Lib.hid (VO.out.below k1_)
        replace K := below_next K k1_
        replace hs := Nat.le_trans hs k1_.size
        clear k1_ lx_ ly_ lz_
        have cx := cell_of_block x
        have fx := unfrozen_of_block x
        have lx := lt_of_block x
        have cy := cell_of_block y
        have fy := unfrozen_of_block y
        have ly := lt_of_block y
        have cz := cell_of_block z
        have fz := unfrozen_of_block z
        have lz := lt_of_block z
        have cl := cell_of_block l
        have fl := unfrozen_of_block l
        have ll := lt_of_block l
        go_wp2_with fail
        refine (l5Enter_c X1 T D r m.v _ vs V1 (hbx _ _ K HO.out) HF.out VO.out.out VF.out.places (fun b hb => Nat.lt_of_lt_of_le (hlt b hb) hs) hT).mono ?_
        rintro e V2 ⟨r2, a2, c2, sy, rfl, hr2, hf2, hsy2, hmf2, hln2, k2_⟩
        clear cx fx lx cy fy ly cz fz lz cl fl ll
        have R2 := Lib.hid hr2
        have F2 := Lib.hid hf2
        have S2 := Lib.hid hsy2
        have MF2 := Lib.hid hmf2
        clear hr2 hf2 hsy2 hmf2
        have lx_ := lt_of_block x
        have ly_ := lt_of_block y
        have lz_ := lt_of_block z
        have ll_ := lt_of_block l
        replace x := carryB k2_ lx_ x
        replace y := carryB k2_ ly_ y
        replace z := carryB k2_ lz_ z
        replace l := carryB k2_ ll_ l
        replace VO := Lib.hid (VO.out.below k2_)
        replace K := below_next K k2_
        replace hs := Nat.le_trans hs k2_.size
        clear k2_ lx_ ly_ lz_ ll_
        have hneV2 : ¬ (V2.heap.size = w.heap.size + 1 + 1) := by omega
        have cx := cell_of_block x
        have fx := unfrozen_of_block x
        have lx := lt_of_block x
        have cy := cell_of_block y
        have fy := unfrozen_of_block y
        have ly := lt_of_block y
        have cz := cell_of_block z
        have fz := unfrozen_of_block z
        have lz := lt_of_block z
        have cl := cell_of_block l
        have fl := unfrozen_of_block l
        have ll := lt_of_block l
        go_upto_region 8 with fail
        obtain ⟨V3, hV_, sV3, p, k1_⟩ := blocks1 V2 (.cells #[.int .i64 r2.me, .int .i64 r2.view, .bool r2.live, .int .i64 r2.nx, .slice r2.ta r2.tk.length r2.tc, .slice r2.ha r2.hd.length r2.hc, .slice r2.da r2.dn.length r2.dc] 78)
        rw [← hV_]
        clear hV_
        clear cx fx lx cy fy ly cz fz lz cl fl ll
        have lx_ := lt_of_block x
        have ly_ := lt_of_block y
        have lz_ := lt_of_block z
        have ll_ := lt_of_block l
        replace x := carryB k1_ lx_ x
        replace y := carryB k1_ ly_ y
        replace z := carryB k1_ lz_ z
        replace l := carryB k1_ ll_ l
        replace VO := Lib.hid (VO.out.below k1_)
        replace R2 := Lib.hid (R2.out.below k1_)
        replace S2 := Lib.hid (S2.out.below k1_)
        replace K := below_next K k1_
        replace hs := Nat.le_trans hs k1_.size
        clear k1_ lx_ ly_ lz_ ll_
        have KW := Lib.hid K
        have SR := Lib.hid (S2.out.out.1.bounds.2.2.2)
        clear sV1 sV3
        have hBW := Nat.le_refl V3.heap.size
        have cx := cell_of_block x
        have fx := unfrozen_of_block x
        have lx := lt_of_block x
        have cy := cell_of_block y
        have fy := unfrozen_of_block y
        have ly := lt_of_block y
        have cz := cell_of_block z
        have fz := unfrozen_of_block z
        have lz := lt_of_block z
        have cp := cell_of_block p
        have fp := unfrozen_of_block p
        have lp := lt_of_block p
        have cl := cell_of_block l
        have fl := unfrozen_of_block l
        have ll := lt_of_block l
        refine wp_region_L (fun w' => (∀ b o, b < V3.heap.size → b ≠ w.heap.size + 1 + 1 → w'.cell? ⟨b, o, none⟩ = V3.cell? ⟨b, o, none⟩) ∧ V3.heap.size ≤ w'.heap.size) [] (by kernel_rfl) ?_
        obtain ⟨V3_0, hw_, kw_⟩ : ∃ wd, wd = V3.drew ∧ Below V3.heap.size V3 wd := ⟨_, rfl, Below.drew (Below.refl _ _)⟩
        rw [← hw_]
        clear hw_
        have hS := KE.next hBW (KE.refl V3.heap.size (w.heap.size + 1 + 1) V3) kw_
        replace x := carryB kw_ (lt_of_block x) x
        replace y := carryB kw_ (lt_of_block y) y
        replace z := carryB kw_ (lt_of_block z) z
        replace p := carryB kw_ (lt_of_block p) p
        replace l := carryB kw_ (lt_of_block l) l
        replace KW := Lib.hid (below_next KW.out kw_)
        replace VO := Lib.hid (VO.out.below kw_)
        replace R2 := Lib.hid (R2.out.below kw_)
        replace S2 := Lib.hid (S2.out.below kw_)
        replace SR := Lib.hid (SR.out.below kw_)
        clear kw_
        refine wpAnyL_take (i := 0) (oi := _) (v := ?_) (by (simp only [List.getElem?_toArray]; rfl)) (by kernel_rfl) (by kernel_rfl) (by kernel_rfl) (by kernel_rfl) (by exact fun _ _ _ h => h) (Or.inl ⟨by rfl, ?_⟩) (by assumption) ?_
        rotate_left
        · intro wS hSw
          go_simp
          all_goals first | with_reducible rfl | rw [if_neg (by omega)]
        simp only [Act.put, List.setIfInBounds_toArray, List.set]
        refine wpAnyL_take (i := 1) (oi := _) (v := ?_) (by (simp only [List.getElem?_toArray]; rfl)) (by kernel_rfl) (by kernel_rfl) (by kernel_rfl) (by kernel_rfl) (by exact fun _ _ _ h => h) (Or.inl ⟨by rfl, ?_⟩) (by assumption) ?_
        rotate_left
        · intro wS hSw
          go_simp
          all_goals first | with_reducible rfl | rw [if_neg (by omega)]
        simp only [Act.put, List.setIfInBounds_toArray, List.set]
        refine wpAnyL_take (i := 3) (oi := _) (v := ?_) (by (simp only [List.getElem?_toArray]; rfl)) (by kernel_rfl) (by kernel_rfl) (by kernel_rfl) (by kernel_rfl) (by exact fun _ _ _ h => h) (Or.inl ⟨by rfl, ?_⟩) (by assumption) ?_
        rotate_left
        · intro wS hSw
          go_simp
          all_goals first | with_reducible rfl | rw [if_neg (by omega)]
        simp only [Act.put, List.setIfInBounds_toArray, List.set]
        refine wpAnyL_ready (rs := [2]) (by kernel_rfl) (by simp) ?_
        refine AllReadyL.cons (o := _) (by (simp only [List.getElem?_toArray]; rfl)) (fun K hK => ?_) AllReadyL.nil
        go_simp
        obtain ⟨V3_1, hw_, sw_, hv_, kw_⟩ := blocks1 V3_0 (.cells #[.int .i64 6, .int .i64 r.me, .int .i64 m.v, .int .i64 0, .int .i64 0, .int .i64 0, .int .i64 0, .int .i64 0, .int .i64 0, .slice none 0 0, .slice a1 vs.length c1] 34)
        rw [← hw_]
        clear hw_ sw_
        have hq_ : V3.heap.size ≤ V3_0.heap.size := Nat.le_trans hBW hS.2
        replace VO := Lib.hid (Rob.own1 VO.out kw_ (Nat.le_refl _) 1)
        replace R2 := Lib.hid (Rob.own1 R2.out kw_ (Nat.le_refl _) 1)
        replace S2 := Lib.hid (Rob.own1 S2.out kw_ (Nat.le_refl _) 1)
        replace hS := KE.next hBW hS kw_
        replace x := carryB kw_ (lt_of_block x) x
        replace y := carryB kw_ (lt_of_block y) y
        replace z := carryB kw_ (lt_of_block z) z
        replace p := carryB kw_ (lt_of_block p) p
        replace l := carryB kw_ (lt_of_block l) l
        replace KW := Lib.hid (below_next KW.out kw_)
        replace SR := Lib.hid (SR.out.below kw_)
        clear kw_
        have RT := Lib.hid (row_of_block (k := 11) (R := Mg.cs) (zs := [(leadM r.me m.v a1 c1 vs)]) (fun _ => rfl) (show V3_1.heap[V3_0.heap.size]? = some (.cells (flat Mg.cs [(leadM r.me m.v a1 c1 vs)]) 34 (0, 0)) from hv_) hq_ (by unfold maxLen; simp))
        clear hv_ hq_
        refine hK.out _ _ (fun _ => hS) ?_
        clear hK K
        try simp only [Act.put, List.setIfInBounds_toArray, List.set]
        refine wpAnyL_ready (rs := [4]) (by kernel_rfl) (by simp) ?_
        refine AllReadyL.cons (o := _) (by (simp only [List.getElem?_toArray]; rfl)) (fun K hK => ?_) AllReadyL.nil
        refine step_append_elm (by rfl) (.tmp 51) (.tmp 52) (by rfl) (sy.length + 1) elmMg (by rfl) (by rfl) RT.out (fun z hz => mg_one (S2.out.out.2 z hz)) SR.out rfl rfl (Nat.add_comm 1 sy.length) (by simp only [maxLen]; omega) (by omega) (Nat.le_trans hBW hS.2) ?_
        intro a3 c3 V3_2 q_
        have hrb_ : ∀ g, rowBlk _ _ = some g → V3.heap.size ≤ g := fun g hg => (RT.out.blk hg).1
        have kB_ : Below V3.heap.size V3_1 V3_2 := q_.below (Nat.le_trans hBW hS.2) hrb_
        replace hS := KE.bel hS kB_
        replace x := carryB kB_ (by omega) x
        replace y := carryB kB_ (by omega) y
        replace z := carryB kB_ (by omega) z
        replace p := carryB kB_ (by omega) p
        replace l := carryB kB_ (by omega) l
        replace KW := Lib.hid (KW.out.trans (kB_.mono (by omega)))
        have RT2 := Lib.hid (q_.row)
        have R2 := Lib.hid (R2.out.appendedX q_)
        have S2 := Lib.hid (S2.out.appendedX q_)
        have VO := Lib.hid (VO.out.appendedX q_)
        clear q_ hrb_ kB_
        refine hK.out _ _ (fun _ => hS) ?_
        clear hK K
        try simp only [Act.put, List.setIfInBounds_toArray, List.set]
        refine wpAnyL_ready (rs := [5]) (by kernel_rfl) (by simp) ?_
        refine AllReadyL.cons (o := _) (by (simp only [List.getElem?_toArray]; rfl)) (fun K hK => ?_) AllReadyL.nil
        have cq_ := cell_of_block z
        have fq_ := unfrozen_of_block z
        have lq_ := lt_of_block z
        go_simp
        obtain ⟨V3_3, hV_, sV_, zV_, oV_, kV_⟩ := stored7 V3_2 (w.heap.size + 1 + 1) _ _ _ _ _ _ _ (.int .i64 r2.me) (.int .i64 r2.view) (.bool r2.live) (.int .i64 r2.nx) (.slice r2.ta r2.tk.length r2.tc) (.slice r2.ha r2.hd.length r2.hc) (.slice r2.da r2.dn.length r2.dc) z
        rw [← hV_]
        clear hV_ cq_ fq_ lq_
        replace R2 := Lib.hid (R2.out.stored sV_ oV_ (.inl (hin _ (by omega) (by omega))))
        replace S2 := Lib.hid (S2.out.stored sV_ oV_ (.inl (hin _ (by omega) (by omega))))
        replace VO := Lib.hid (VO.out.stored sV_ oV_ (.inl (hin _ (by omega) (by omega))))
        replace RT2 := Lib.hid (RT2.out.later sV_ oV_ (by omega))
        replace x := (oV_ _ (by omega)).trans x
        replace y := (oV_ _ (by omega)).trans y
        replace p := (oV_ _ (by omega)).trans p
        replace l := (oV_ _ (by omega)).trans l
        replace z := zV_
        replace KW := Lib.hid (KW.out.trans (kV_.mono (by omega)))
        replace hS := KE.store hS sV_ oV_
        clear kV_ oV_ sV_ zV_
        refine hK.out _ _ (fun _ => hS) ?_
        clear hK K
        try simp only [Act.put, List.setIfInBounds_toArray, List.set]
        refine wpAnyL_take (i := 6) (oi := _) (v := ?_) (by (simp only [List.getElem?_toArray]; rfl)) (by kernel_rfl) (by kernel_rfl) (by kernel_rfl) (by kernel_rfl) (by exact fun _ _ _ h => h) (Or.inl ⟨by rfl, ?_⟩) (by assumption) ?_
        rotate_left
        · intro wS hSw
          go_simp
          all_goals first | with_reducible rfl | rw [if_neg (by omega)]
        simp only [Act.put, List.setIfInBounds_toArray, List.set]
        refine wpAnyL_done (by kernel_rfl) ?_ _
        clear cx fx lx cy fy ly cz fz lz cp fp lp cl fl ll
        clear hS x y p l
        have cz := cell_of_block z
        have fz := unfrozen_of_block z
        have lz := lt_of_block z
        go_wp2_with fail
        refine bodyPost_ret (v := .tuple #[.agg #[.int .i64 r2.me, .int .i64 r2.view, .bool r2.live, .int .i64 r2.nx, .slice r2.ta r2.tk.length r2.tc, .slice r2.ha r2.hd.length r2.hc, .slice r2.da r2.dn.length r2.dc], .slice a3 (sy.length + 1) c3]) (by simp [results, Try.results96, go_sem, cz]) rfl ?_
        refine ⟨r2, a3, c3, [(leadM r.me m.v a1 c1 vs)] ++ sy, rfl, R2.out.weak (fun b hb => .inl (hsub b hb)), F2.out, ?_, fit_append (fit_one ⟨⟨Nat.zero_le _, fun c hc => nomatch hc⟩, VF.out⟩) MF2.out, by show sy.length + 1 ≤ 6; omega, KW.out⟩
        refine fun V' hV' => ⟨Rob.ofLo (B := V3.heap.size) (RT2.out.rob eleven_len) (fun b hb => Nat.lt_of_lt_of_le (hlt b (hsub b hb)) hs) V' hV', fun m' hm' => (List.mem_append.1 hm').elim (fun h' => ?_) (fun h' => (S2.out.weak (fun b hb => .inl (hsub b hb)) V' hV').2 m' h')⟩
        rw [List.mem_singleton.1 h']
        exact ⟨isSl_nil _ _ _ _ (Nat.zero_le _) _, VO.out.weak (fun b hb => .inl (hsub b hb)) V' hV'⟩
    | false =>
      refine wp_region_quiet_below (by kernel_rfl) (by kernel_rfl) ?_
      repeat (go_big_quiet_step (first | with_reducible exact cS _ _ | with_reducible exact cM _ _))
      refine wpQuiet_nil ?_
      intro _ hw'
      obtain ⟨⟨dq, osq⟩, hw''⟩ := hw'
      subst hw''
      have kq := below_regrown W dq osq
      clear ex ey cS cM
      generalize Sort.grow (redrawn W dq) osq = U at *
      have lx_ := lt_of_block x
      have ly_ := lt_of_block y
      have lz_ := lt_of_block z
      replace x := carryB kq lx_ x
      replace y := carryB kq ly_ y
      replace z := carryB kq lz_ z
      replace K := below_next K kq
      replace hs := Nat.le_trans hs kq.size
      clear kq lx_ ly_ lz_
      clear hq1
      have cx := cell_of_block x
      have fx := unfrozen_of_block x
      have lx := lt_of_block x
      have cy := cell_of_block y
      have fy := unfrozen_of_block y
      have ly := lt_of_block y
      have cz := cell_of_block z
      have fz := unfrozen_of_block z
      have lz := lt_of_block z
      go_wp2_with fail
      refine bodyPost_ret (v := .tuple #[.agg #[.int .i64 r.me, .int .i64 r.view, .bool r.live, .int .i64 r.nx, .slice r.ta r.tk.length r.tc, .slice r.ha r.hd.length r.hc, .slice r.da r.dn.length r.dc], .slice none 0 0]) (by simp [results, Try.results96, go_sem, cz]) rfl ?_
      refine ⟨r, none, 0, [], rfl, HO.out.below (by repeat' (first | with_reducible exact Below.refl _ _ | with_reducible assumption | with_reducible refine Below.alloc ?_ ?_ _ | with_reducible refine Below.drew ?_ | with_reducible refine Below.setCell ?_ ?_ _ | omega | (simp; omega) | (simp; done))), HF.out.more (by omega) (by omega), fun V' _ => isMs_nil _ _ _ (Nat.zero_le _), (fun z hz => nomatch hz), Nat.zero_le _, (by repeat' (first | with_reducible exact Below.refl _ _ | with_reducible assumption | with_reducible refine Below.alloc ?_ ?_ _ | with_reducible refine Below.drew ?_ | with_reducible refine Below.setCell ?_ ?_ _ | omega | (simp; omega) | (simp; done)))⟩
end Go.Proofs.Ytgdhieffjflejaa
