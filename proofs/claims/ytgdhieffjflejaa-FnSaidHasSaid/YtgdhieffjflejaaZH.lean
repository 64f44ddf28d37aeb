/- A keeper that hears a letter (l5Hear); condition: small sizes. -/
import Derived.Test.YtgdhieffjflejaaK12
set_option linter.unusedSimpArgs false
set_option linter.unusedVariables false
/-! K13 -/
namespace Go.Proofs.Ytgdhieffjflejaa
open Go.RowKit Go.Joins

set_option maxRecDepth 100000 in
set_option maxHeartbeats 16000000 in
theorem l5Hear_c (X : Nat → Prop) (T D : Nat) (r : Rk) (va vb : Value) (m : Mg) (ms : List Mg) (w : World) (h : Rob X r.ok w) (hf : r.fit T D) (hm : IsMg w va m) (hmf : m.fit) (hms : IsMs w vb ms) (hmsf : MsFit ms) (hX : ∀ b, X b → b < w.heap.size) (hT : T ≤ 900) (hD : D ≤ 900000) :
  Calls Try.prog 85 #[.agg #[.int .i64 r.me, .int .i64 r.view, .bool r.live, .int .i64 r.nx, .slice r.ta r.tk.length r.tc, .slice r.ha r.hd.length r.hc, .slice r.da r.dn.length r.dc], va, vb] w (KeepSays X (T + 5) (D + (T + 5)) (T + 11) w) := by
 have HO := Lib.hid h
 have HF := Lib.hid hf
 have HM := Lib.hid hm
 have HMS := Lib.hid hms
 have HMSF := Lib.hid hmsf
 have HMF := Lib.hid hmf
 obtain ⟨rfl, ⟨am, cm, em, -⟩, ⟨bm, dm, fm, -⟩, -⟩ := hm
 obtain ⟨⟨as_, cs_, rfl, -⟩, -⟩ := hms
 simp only [Mg.cs, em, fm] at HM ⊢
 clear h hf em fm hmf hmsf
 go_enter Try.func85, Try.ntmps85
 go_upto_region 1 with fail
 obtain ⟨W, hW_, sW, x, y, z, kW⟩ := blocks3 w (.cells #[.int .i64 r.me, .int .i64 r.view, .bool r.live, .int .i64 r.nx, .slice r.ta r.tk.length r.tc, .slice r.ha r.hd.length r.hc, .slice r.da r.dn.length r.dc] 78) (.cells #[.int .i64 m.k, .int .i64 m.f, .int .i64 m.v, .int .i64 m.s, .int .i64 m.r.c, .int .i64 m.r.n, .int .i64 m.r.o, .int .i64 m.r.x, .int .i64 m.r.y, .slice am m.cl.length cm, .slice bm m.vs.length dm] 34) (.cells #[.int .i64 0, .int .i64 0, .bool false, .int .i64 0, .slice none 0 0, .slice none 0 0, .slice none 0 0] 78)
 rw [← hW_]
 clear hW_
 have hsW : w.heap.size + 3 ≤ W.heap.size := by omega
 obtain ⟨X1, hlt, hin, hsub, hbx⟩ : ∃ X1 : Nat → Prop, (∀ b, X1 b → b < W.heap.size) ∧ (∀ b, w.heap.size ≤ b → b < W.heap.size → X1 b) ∧ (∀ b, X b → X1 b) ∧ ∀ (F : World → Prop) (V : World), Below w.heap.size w V → Rob X F w → Rob X1 F V :=
  ⟨Bx X w.heap.size W.heap.size, Bx.lt hX (by omega), fun b h1 h2 => .inr ⟨h1, h2⟩, fun b hb => .inl hb, fun F V hV hF => hF.box hV _⟩
 clear sW
 go_upto_region 2 with fail
 obtain ⟨Y, hY_, sY, vY, k1_⟩ := blocks1 W (.cells #[] 34)
 rw [← hY_]
 clear hY_ vY sY
 have K := kW
 have hs : W.heap.size ≤ W.heap.size := Nat.le_refl _
 clear kW
 have lx_ := lt_of_block x
 have ly_ := lt_of_block y
 have lz_ := lt_of_block z
 replace x := carryB k1_ lx_ x
 replace y := carryB k1_ ly_ y
 replace z := carryB k1_ lz_ z
 replace K := below_next K k1_
 replace hs := Nat.le_trans hs k1_.size
 clear k1_ lx_ ly_ lz_
 have R := Lib.hid (hbx _ _ K HO.out)
 have HMX := Lib.hid (fun (V : World) (k : Below w.heap.size w V) => HM.out.below k)
 have HMSX := Lib.hid (fun (V : World) (k : Below w.heap.size w V) => HMS.out.below k)
 clear HM HMS HO hbx
 have SE := Lib.hid (fun V : World => isMs_nil V (some ⟨W.heap.size, 0, none⟩) 0 (Nat.zero_le _))
 have cx := cell_of_block x
 have fx := unfrozen_of_block x
 have lx := lt_of_block x
 have cy := cell_of_block y
 have fy := unfrozen_of_block y
 have ly := lt_of_block y
 have cz := cell_of_block z
 have fz := unfrozen_of_block z
 have lz := lt_of_block z
 go_wp2_with fail
 refine (l1In_c _ _ _ _).mono ?_
 rintro e w' ⟨rfl, rfl⟩
 obtain ⟨qi, hqi⟩ : ∃ q, inB m.k 3 5 = q := ⟨_, rfl⟩
 rw [hqi]
 cases qi with
 | true =>
  have h35 : 3 ≤ m.k ∧ m.k ≤ 5 := by simpa [inB] using hqi
  clear hqi
  go_wp2_with fail
  refine (l5Note_c X1 T D r _ m Y R.out HF.out (HMX.out _ K) HMF.out (fun b hb => Nat.lt_of_lt_of_le (hlt b hb) hs) (by omega)).mono ?_
  rintro e Y1 ⟨r1, rfl, hr1, hf1, k1_⟩
  clear cx fx lx cy fy ly cz fz lz
  clear R
  have lx_ := lt_of_block x
  have ly_ := lt_of_block y
  have lz_ := lt_of_block z
  replace x := carryB k1_ lx_ x
  replace y := carryB k1_ ly_ y
  replace z := carryB k1_ lz_ z
  replace K := below_next K k1_
  replace hs := Nat.le_trans hs k1_.size
  clear k1_ lx_ ly_ lz_
  have R := Lib.hid hr1
  have F := Lib.hid hf1
  clear hr1 hf1
  have cx := cell_of_block x
  have fx := unfrozen_of_block x
  have lx := lt_of_block x
  have cy := cell_of_block y
  have fy := unfrozen_of_block y
  have ly := lt_of_block y
  have cz := cell_of_block z
  have fz := unfrozen_of_block z
  have lz := lt_of_block z
  go_upto_region 4 with fail
  obtain ⟨Y2, hV_, sV, xV, oV, kV⟩ := stored7 Y1 w.heap.size _ _ _ _ _ _ _ (.int .i64 r1.me) (.int .i64 r1.view) (.bool r1.live) (.int .i64 r1.nx) (.slice r1.ta r1.tk.length r1.tc) (.slice r1.ha r1.hd.length r1.hc) (.slice r1.da r1.dn.length r1.dc) x
  rw [← hV_]
  clear hV_
  clear cx fx lx cy fy ly cz fz lz
  replace x := xV
  replace y := (oV _ (by omega)).trans y
  replace z := (oV _ (by omega)).trans z
  replace R := Lib.hid (R.out.stored sV oV (hin _ (by omega) (by omega)))
  replace K := K.trans (kV.mono (by omega))
  replace hs : W.heap.size ≤ Y2.heap.size := by omega
  clear xV oV kV sV
  have n1 : (m.k == 1) = false := by simp; omega
  have n2 : (m.k == 2) = false := by simp; omega
  have n6 : (m.k == 6) = false := by simp; omega
  clear h35
  obtain ⟨p5, hp5⟩ : ∃ q, (m.k == 5) = q := ⟨_, rfl⟩
  cases p5 with
  | true =>
   have cx := cell_of_block x
   have fx := unfrozen_of_block x
   have lx := lt_of_block x
   have cy := cell_of_block y
   have fy := unfrozen_of_block y
   have ly := lt_of_block y
   have cz := cell_of_block z
   have fz := unfrozen_of_block z
   have lz := lt_of_block z
   go_wp2_with fail
   refine (l5Turned_c X1 T D r1 _ _ m ms Y2 R.out F.out (HMX.out _ K) HMF.out (HMSX.out _ K) HMSF.out (fun b hb => Nat.lt_of_lt_of_le (hlt b hb) hs) (by omega)).mono ?_
   rintro e V1 ⟨r2, a2, c2, sy, rfl, hr2, hf2, hsy2, hmf2, hln2, k2_⟩
   clear cx fx lx cy fy ly cz fz lz
   have R := Lib.hid hr2
   have F := Lib.hid (hf2.more (by omega : _ ≤ T + 5) (Nat.le_refl D))
   have S := Lib.hid hsy2
   have MF := Lib.hid hmf2
   clear hr2 hf2 hsy2 hmf2
   have lx_ := lt_of_block x
   have ly_ := lt_of_block y
   have lz_ := lt_of_block z
   replace x := carryB k2_ lx_ x
   replace y := carryB k2_ ly_ y
   replace z := carryB k2_ lz_ z
   replace K := below_next K k2_
   replace hs := Nat.le_trans hs k2_.size
   clear k2_ lx_ ly_ lz_
   have hl6 : sy.length ≤ 6 := by omega
   clear hln2
   have cx := cell_of_block x
   have fx := unfrozen_of_block x
   have lx := lt_of_block x
   have cy := cell_of_block y
   have fy := unfrozen_of_block y
   have ly := lt_of_block y
   have cz := cell_of_block z
   have fz := unfrozen_of_block z
   have lz := lt_of_block z
   go_upto_region 13 with fail
   obtain ⟨VV, hV_, sV, xV, oV, kV⟩ := stored7 V1 w.heap.size _ _ _ _ _ _ _ (.int .i64 r2.me) (.int .i64 r2.view) (.bool r2.live) (.int .i64 r2.nx) (.slice r2.ta r2.tk.length r2.tc) (.slice r2.ha r2.hd.length r2.hc) (.slice r2.da r2.dn.length r2.dc) x
   rw [← hV_]
   clear hV_
   clear cx fx lx cy fy ly cz fz lz
   replace x := xV
   replace y := (oV _ (by omega)).trans y
   replace z := (oV _ (by omega)).trans z
   replace R := Lib.hid (R.out.stored sV oV (hin _ (by omega) (by omega)))
   replace S := Lib.hid (S.out.stored sV oV (hin _ (by omega) (by omega)))
   replace K := K.trans (kV.mono (by omega))
   replace hs : W.heap.size ≤ VV.heap.size := by omega
   clear xV oV kV sV
   have cx := cell_of_block x
   have fx := unfrozen_of_block x
   have lx := lt_of_block x
   have cy := cell_of_block y
   have fy := unfrozen_of_block y
   have ly := lt_of_block y
   have cz := cell_of_block z
   have fz := unfrozen_of_block z
   have lz := lt_of_block z
   go_wp2_with fail
   refine (l5Go_c X1 (T + 5) D r2 VV R.out F.out (fun b hb => Nat.lt_of_lt_of_le (hlt b hb) hs) (by omega) (by omega)).mono ?_
   rintro e V2 ⟨r3, a3, c3, sy3, rfl, hr3, hf3, hsy3, hmf3, hln3, k2_⟩
   clear cx fx lx cy fy ly cz fz lz
   clear R F
   have R3 := Lib.hid hr3
   have F3 := Lib.hid hf3
   have S3 := Lib.hid hsy3
   have MF3 := Lib.hid hmf3
   clear hr3 hf3 hsy3 hmf3
   have lx_ := lt_of_block x
   have ly_ := lt_of_block y
   have lz_ := lt_of_block z
   replace x := carryB k2_ lx_ x
   replace y := carryB k2_ ly_ y
   replace z := carryB k2_ lz_ z
   replace S := Lib.hid (S.out.below k2_)
   replace K := below_next K k2_
   replace hs := Nat.le_trans hs k2_.size
   clear k2_ lx_ ly_ lz_
   have cx := cell_of_block x
   have fx := unfrozen_of_block x
   have lx := lt_of_block x
   have cy := cell_of_block y
   have fy := unfrozen_of_block y
   have ly := lt_of_block y
   have cz := cell_of_block z
   have fz := unfrozen_of_block z
   have lz := lt_of_block z
   go_upto_region 14 with fail
   have hne_ : ¬ (V2.heap.size = w.heap.size + 1 + 1) := by omega
   obtain ⟨V3, hV_, sV3, p, k1_⟩ := blocks1 V2 (.cells #[.int .i64 r3.me, .int .i64 r3.view, .bool r3.live, .int .i64 r3.nx, .slice r3.ta r3.tk.length r3.tc, .slice r3.ha r3.hd.length r3.hc, .slice r3.da r3.dn.length r3.dc] 78)
   rw [← hV_]
   clear hV_
   clear cx fx lx cy fy ly cz fz lz
   have lx_ := lt_of_block x
   have ly_ := lt_of_block y
   have lz_ := lt_of_block z
   replace x := carryB k1_ lx_ x
   replace y := carryB k1_ ly_ y
   replace z := carryB k1_ lz_ z
   replace S := Lib.hid (S.out.below k1_)
   replace R3 := Lib.hid (R3.out.below k1_)
   replace S3 := Lib.hid (S3.out.below k1_)
   replace K := below_next K k1_
   replace hs := Nat.le_trans hs k1_.size
   clear k1_ lx_ ly_ lz_
   have KW := Lib.hid K
   have SA := Lib.hid (S.out.out.1.bounds.2.2.2)
   have SB := Lib.hid (S3.out.out.1.bounds.2.2.2)
   clear sV3
   have hBW := Nat.le_refl V3.heap.size
   have cx := cell_of_block x
   have fx := unfrozen_of_block x
   have lx := lt_of_block x
   have cy := cell_of_block y
   have fy := unfrozen_of_block y
   have ly := lt_of_block y
   have cz := cell_of_block z
   have fz := unfrozen_of_block z
   have lz := lt_of_block z
   have cp := cell_of_block p
   have fp := unfrozen_of_block p
   have lp := lt_of_block p
   refine wp_region_L (fun w' => (∀ b o, b < V3.heap.size → b ≠ w.heap.size + 1 + 1 → w'.cell? ⟨b, o, none⟩ = V3.cell? ⟨b, o, none⟩) ∧ V3.heap.size ≤ w'.heap.size) [] (by kernel_rfl) ?_
   obtain ⟨V3_0, hw_, kw_⟩ : ∃ wd, wd = V3.drew ∧ Below V3.heap.size V3 wd := ⟨_, rfl, Below.drew (Below.refl _ _)⟩
   rw [← hw_]
   clear hw_
   have hS := KE.next hBW (KE.refl V3.heap.size (w.heap.size + 1 + 1) V3) kw_
   replace x := carryB kw_ (lt_of_block x) x
   replace y := carryB kw_ (lt_of_block y) y
   replace z := carryB kw_ (lt_of_block z) z
   replace p := carryB kw_ (lt_of_block p) p
   replace KW := Lib.hid (below_next KW.out kw_)
   replace S := Lib.hid (S.out.below kw_)
   replace R3 := Lib.hid (R3.out.below kw_)
   replace S3 := Lib.hid (S3.out.below kw_)
   replace SA := Lib.hid (SA.out.below kw_)
   replace SB := Lib.hid (SB.out.below kw_)
   clear kw_
   refine wpAnyL_take (i := 0) (oi := _) (v := ?_) (by (simp only [List.getElem?_toArray]; rfl)) (by kernel_rfl) (by kernel_rfl) (by kernel_rfl) (by kernel_rfl) (by exact fun _ _ _ h => h) (Or.inl ⟨by rfl, ?_⟩) (by assumption) ?_
   rotate_left
   ·
    intro wS hSw
    go_simp
    all_goals first | with_reducible rfl | rw [if_neg (by omega)]
   simp only [Act.put, List.setIfInBounds_toArray, List.set]
   refine wpAnyL_take (i := 2) (oi := _) (v := ?_) (by (simp only [List.getElem?_toArray]; rfl)) (by kernel_rfl) (by kernel_rfl) (by kernel_rfl) (by kernel_rfl) (by exact fun _ _ _ h => h) (Or.inl ⟨by rfl, ?_⟩) (by assumption) ?_
   rotate_left
   ·
    intro wS hSw
    go_simp
    all_goals first | with_reducible rfl | rw [if_neg (by omega)]
   simp only [Act.put, List.setIfInBounds_toArray, List.set]
   refine wpAnyL_take (i := 4) (oi := _) (v := ?_) (by (simp only [List.getElem?_toArray]; rfl)) (by kernel_rfl) (by kernel_rfl) (by kernel_rfl) (by kernel_rfl) (by exact fun _ _ _ h => h) (Or.inl ⟨by rfl, ?_⟩) (by assumption) ?_
   rotate_left
   ·
    intro wS hSw
    go_simp
    all_goals first | with_reducible rfl | rw [if_neg (by omega)]
   simp only [Act.put, List.setIfInBounds_toArray, List.set]
   refine wpAnyL_ready (rs := [1]) (by kernel_rfl) (by simp) ?_
   refine AllReadyL.cons (o := _) (by (simp only [List.getElem?_toArray]; rfl)) (fun K hK => ?_) AllReadyL.nil
   refine step_build0M (by rfl) (by rfl) elmMg ?_
   obtain ⟨V3_1, hw_, kw_⟩ : ∃ V, V = V3_0.alloc (.cells #[] 34) ∧ Below V3_0.heap.size V3_0 V := ⟨_, rfl, (Below.refl _ _).alloc (Nat.le_refl _) _⟩
   rw [← hw_]
   clear hw_
   replace hS := KE.next hBW hS kw_
   replace x := carryB kw_ (lt_of_block x) x
   replace y := carryB kw_ (lt_of_block y) y
   replace z := carryB kw_ (lt_of_block z) z
   replace p := carryB kw_ (lt_of_block p) p
   replace KW := Lib.hid (below_next KW.out kw_)
   replace S := Lib.hid (S.out.below kw_)
   replace R3 := Lib.hid (R3.out.below kw_)
   replace S3 := Lib.hid (S3.out.below kw_)
   replace SA := Lib.hid (SA.out.below kw_)
   replace SB := Lib.hid (SB.out.below kw_)
   clear kw_
   refine hK.out _ _ (fun _ => hS) ?_
   clear hK K
   try simp only [Act.put, List.setIfInBounds_toArray, List.set]
   refine wpAnyL_ready (rs := [3]) (by kernel_rfl) (by simp) ?_
   refine AllReadyL.cons (o := _) (by (simp only [List.getElem?_toArray]; rfl)) (fun K hK => ?_) AllReadyL.nil
   refine step_append_newM V3_1.heap.size (by rfl) (.tmp 61) (.tmp 62) (by rfl) elmMg (by rfl) (by rfl) (fun z hz => mg_one (S.out.out.2 z hz)) (SA.out) (by rfl) (by simp only [maxLen]; omega) (by omega) (Nat.le_refl _) ?_
   intro a4 c4 V3_2 q_
   have hq_ : V3.heap.size ≤ V3_1.heap.size := Nat.le_trans hBW hS.2
   have kw_ := q_.below
   replace S := Lib.hid (S.out.newrowX q_)
   replace R3 := Lib.hid (R3.out.newrowX q_)
   replace S3 := Lib.hid (S3.out.newrowX q_)
   replace hS := KE.next hBW hS kw_
   replace x := carryB kw_ (lt_of_block x) x
   replace y := carryB kw_ (lt_of_block y) y
   replace z := carryB kw_ (lt_of_block z) z
   replace p := carryB kw_ (lt_of_block p) p
   replace KW := Lib.hid (below_next KW.out kw_)
   replace SA := Lib.hid (SA.out.below kw_)
   replace SB := Lib.hid (SB.out.below kw_)
   clear kw_
   have RT := Lib.hid (q_.row.low hq_)
   clear q_ hq_
   refine hK.out _ _ (fun _ => hS) ?_
   clear hK K
   try simp only [Act.put, List.setIfInBounds_toArray, List.set]
   refine wpAnyL_ready (rs := [5]) (by kernel_rfl) (by simp) ?_
   refine AllReadyL.cons (o := _) (by (simp only [List.getElem?_toArray]; rfl)) (fun K hK => ?_) AllReadyL.nil
   refine step_append_elm (by rfl) (.tmp 63) (.tmp 64) (by rfl) (sy.length + sy3.length) elmMg (by rfl) (by rfl) RT.out (fun z hz => mg_one (S3.out.out.2 z hz)) SB.out (by rfl) (by rfl) (by rfl) (by simp only [maxLen]; omega) (by omega) (Nat.le_trans hBW hS.2) ?_
   intro a5 c5 V3_3 q_
   have hrb_ : ∀ g, rowBlk _ _ = some g → V3.heap.size ≤ g := fun g hg => (RT.out.blk hg).1
   have kB_ : Below V3.heap.size V3_2 V3_3 := q_.below (Nat.le_trans hBW hS.2) hrb_
   replace hS := KE.bel hS kB_
   replace x := carryB kB_ (by omega) x
   replace y := carryB kB_ (by omega) y
   replace z := carryB kB_ (by omega) z
   replace p := carryB kB_ (by omega) p
   replace KW := Lib.hid (KW.out.trans (kB_.mono (by omega)))
   have RT2 := Lib.hid (q_.row)
   have R3 := Lib.hid (R3.out.appendedX q_)
   have S := Lib.hid (S.out.appendedX q_)
   have S3 := Lib.hid (S3.out.appendedX q_)
   clear q_ hrb_ kB_
   refine hK.out _ _ (fun _ => hS) ?_
   clear hK K
   try simp only [Act.put, List.setIfInBounds_toArray, List.set]
   refine wpAnyL_ready (rs := [6]) (by kernel_rfl) (by simp) ?_
   refine AllReadyL.cons (o := _) (by (simp only [List.getElem?_toArray]; rfl)) (fun K hK => ?_) AllReadyL.nil
   have cq_ := cell_of_block z
   have fq_ := unfrozen_of_block z
   have lq_ := lt_of_block z
   go_simp
   obtain ⟨V3_4, hV_, sV_, zV_, oV_, kV_⟩ := stored7 V3_3 (w.heap.size + 1 + 1) _ _ _ _ _ _ _ (.int .i64 r3.me) (.int .i64 r3.view) (.bool r3.live) (.int .i64 r3.nx) (.slice r3.ta r3.tk.length r3.tc) (.slice r3.ha r3.hd.length r3.hc) (.slice r3.da r3.dn.length r3.dc) z
   rw [← hV_]
   clear hV_ cq_ fq_ lq_
   replace R3 := Lib.hid (R3.out.stored sV_ oV_ (.inl (hin _ (by omega) (by omega))))
   replace S := Lib.hid (S.out.stored sV_ oV_ (.inl (hin _ (by omega) (by omega))))
   replace S3 := Lib.hid (S3.out.stored sV_ oV_ (.inl (hin _ (by omega) (by omega))))
   replace RT2 := Lib.hid (RT2.out.later sV_ oV_ (by omega))
   replace x := (oV_ _ (by omega)).trans x
   replace y := (oV_ _ (by omega)).trans y
   replace p := (oV_ _ (by omega)).trans p
   replace z := zV_
   replace KW := Lib.hid (KW.out.trans (kV_.mono (by omega)))
   replace hS := KE.store hS sV_ oV_
   clear kV_ oV_ sV_ zV_
   refine hK.out _ _ (fun _ => hS) ?_
   clear hK K
   try simp only [Act.put, List.setIfInBounds_toArray, List.set]
   refine wpAnyL_take (i := 7) (oi := _) (v := ?_) (by (simp only [List.getElem?_toArray]; rfl)) (by kernel_rfl) (by kernel_rfl) (by kernel_rfl) (by kernel_rfl) (by exact fun _ _ _ h => h) (Or.inl ⟨by rfl, ?_⟩) (by assumption) ?_
   rotate_left
   ·
    intro wS hSw
    go_simp
    all_goals first | with_reducible rfl | rw [if_neg (by omega)]
   simp only [Act.put, List.setIfInBounds_toArray, List.set]
   refine wpAnyL_done (by kernel_rfl) ?_ _
   clear cx fx lx cy fy ly cz fz lz cp fp lp
   clear hS x y p
   have cz := cell_of_block z
   have fz := unfrozen_of_block z
   have lz := lt_of_block z
   go_wp2_with fail
   refine bodyPost_ret (v := .tuple #[.agg #[.int .i64 r3.me, .int .i64 r3.view, .bool r3.live, .int .i64 r3.nx, .slice r3.ta r3.tk.length r3.tc, .slice r3.ha r3.hd.length r3.hc, .slice r3.da r3.dn.length r3.dc], .slice a5 (sy.length + sy3.length) c5]) (by simp [results, Try.results85, go_sem, cz]) rfl ?_
   refine ⟨r3, a5, c5, sy ++ sy3, by first | rfl | simp, R3.out.weak (fun b hb => .inl (hsub b hb)), F3.out, ?_, fit_append MF.out MF3.out, by simp; omega, KW.out⟩
   refine fun V' hV' => ⟨Rob.ofLo (B := V3.heap.size) (F := fun V' => IsSl V' (.slice a5 (sy ++ sy3).length c5) 11 Mg.cs (sy ++ sy3)) (RT2.out.rob eleven_len) (fun b hb => Nat.lt_of_lt_of_le (hlt b (hsub b hb)) hs) V' hV', fun m' hm' => (List.mem_append.1 hm').elim (fun h' => (S.out.weak (fun b hb => .inl (hsub b hb)) V' hV').2 m' h') (fun h' => (S3.out.weak (fun b hb => .inl (hsub b hb)) V' hV').2 m' h')⟩
  | false =>
   have S := Lib.hid (show Rob X1 (fun V => IsMs V (.slice (some ⟨W.heap.size, 0, none⟩) 0 0) []) Y2 from fun V _ => SE.out V)
   have MF := Lib.hid (show MsFit [] from fun z hz => nomatch hz)
   replace F := Lib.hid (F.out.more (by omega : _ ≤ T + 5) (Nat.le_refl D))
   have cx := cell_of_block x
   have fx := unfrozen_of_block x
   have lx := lt_of_block x
   have cy := cell_of_block y
   have fy := unfrozen_of_block y
   have ly := lt_of_block y
   have cz := cell_of_block z
   have fz := unfrozen_of_block z
   have lz := lt_of_block z
   go_wp2_with fail
   refine (l5Go_c X1 (T + 5) D r1 Y2 R.out F.out (fun b hb => Nat.lt_of_lt_of_le (hlt b hb) hs) (by omega) (by omega)).mono ?_
   rintro e V2 ⟨r3, a3, c3, sy3, rfl, hr3, hf3, hsy3, hmf3, hln3, k2_⟩
   clear cx fx lx cy fy ly cz fz lz
   clear R F
   have R3 := Lib.hid hr3
   have F3 := Lib.hid hf3
   have S3 := Lib.hid hsy3
   have MF3 := Lib.hid hmf3
   clear hr3 hf3 hsy3 hmf3
   have lx_ := lt_of_block x
   have ly_ := lt_of_block y
   have lz_ := lt_of_block z
   replace x := carryB k2_ lx_ x
   replace y := carryB k2_ ly_ y
   replace z := carryB k2_ lz_ z
   replace S := Lib.hid (S.out.below k2_)
   replace K := below_next K k2_
   replace hs := Nat.le_trans hs k2_.size
   clear k2_ lx_ ly_ lz_
   have cx := cell_of_block x
   have fx := unfrozen_of_block x
   have lx := lt_of_block x
   have cy := cell_of_block y
   have fy := unfrozen_of_block y
   have ly := lt_of_block y
   have cz := cell_of_block z
   have fz := unfrozen_of_block z
   have lz := lt_of_block z
   go_upto_region 14 with fail
   have hne_ : ¬ (V2.heap.size = w.heap.size + 1 + 1) := by omega
   obtain ⟨V3, hV_, sV3, p, k1_⟩ := blocks1 V2 (.cells #[.int .i64 r3.me, .int .i64 r3.view, .bool r3.live, .int .i64 r3.nx, .slice r3.ta r3.tk.length r3.tc, .slice r3.ha r3.hd.length r3.hc, .slice r3.da r3.dn.length r3.dc] 78)
   rw [← hV_]
   clear hV_
   clear cx fx lx cy fy ly cz fz lz
   have lx_ := lt_of_block x
   have ly_ := lt_of_block y
   have lz_ := lt_of_block z
   replace x := carryB k1_ lx_ x
   replace y := carryB k1_ ly_ y
   replace z := carryB k1_ lz_ z
   replace S := Lib.hid (S.out.below k1_)
   replace R3 := Lib.hid (R3.out.below k1_)
   replace S3 := Lib.hid (S3.out.below k1_)
   replace K := below_next K k1_
   replace hs := Nat.le_trans hs k1_.size
   clear k1_ lx_ ly_ lz_
   have KW := Lib.hid K
   have SA := Lib.hid (S.out.out.1.bounds.2.2.2)
   have SB := Lib.hid (S3.out.out.1.bounds.2.2.2)
   clear sV3
   have hBW := Nat.le_refl V3.heap.size
   have cx := cell_of_block x
   have fx := unfrozen_of_block x
   have lx := lt_of_block x
   have cy := cell_of_block y
   have fy := unfrozen_of_block y
   have ly := lt_of_block y
   have cz := cell_of_block z
   have fz := unfrozen_of_block z
   have lz := lt_of_block z
   have cp := cell_of_block p
   have fp := unfrozen_of_block p
   have lp := lt_of_block p
   refine wp_region_L (fun w' => (∀ b o, b < V3.heap.size → b ≠ w.heap.size + 1 + 1 → w'.cell? ⟨b, o, none⟩ = V3.cell? ⟨b, o, none⟩) ∧ V3.heap.size ≤ w'.heap.size) [] (by kernel_rfl) ?_
   obtain ⟨V3_0, hw_, kw_⟩ : ∃ wd, wd = V3.drew ∧ Below V3.heap.size V3 wd := ⟨_, rfl, Below.drew (Below.refl _ _)⟩
   rw [← hw_]
   clear hw_
   have hS := KE.next hBW (KE.refl V3.heap.size (w.heap.size + 1 + 1) V3) kw_
   replace x := carryB kw_ (lt_of_block x) x
   replace y := carryB kw_ (lt_of_block y) y
   replace z := carryB kw_ (lt_of_block z) z
   replace p := carryB kw_ (lt_of_block p) p
   replace KW := Lib.hid (below_next KW.out kw_)
   replace S := Lib.hid (S.out.below kw_)
   replace R3 := Lib.hid (R3.out.below kw_)
   replace S3 := Lib.hid (S3.out.below kw_)
   replace SA := Lib.hid (SA.out.below kw_)
   replace SB := Lib.hid (SB.out.below kw_)
   clear kw_
   refine wpAnyL_take (i := 0) (oi := _) (v := ?_) (by (simp only [List.getElem?_toArray]; rfl)) (by kernel_rfl) (by kernel_rfl) (by kernel_rfl) (by kernel_rfl) (by exact fun _ _ _ h => h) (Or.inl ⟨by rfl, ?_⟩) (by assumption) ?_
   rotate_left
   ·
    intro wS hSw
    go_simp
    all_goals first | with_reducible rfl | rw [if_neg (by omega)]
   simp only [Act.put, List.setIfInBounds_toArray, List.set]
   refine wpAnyL_take (i := 2) (oi := _) (v := ?_) (by (simp only [List.getElem?_toArray]; rfl)) (by kernel_rfl) (by kernel_rfl) (by kernel_rfl) (by kernel_rfl) (by exact fun _ _ _ h => h) (Or.inl ⟨by rfl, ?_⟩) (by assumption) ?_
   rotate_left
   ·
    intro wS hSw
    go_simp
    all_goals first | with_reducible rfl | rw [if_neg (by omega)]
   simp only [Act.put, List.setIfInBounds_toArray, List.set]
   refine wpAnyL_take (i := 4) (oi := _) (v := ?_) (by (simp only [List.getElem?_toArray]; rfl)) (by kernel_rfl) (by kernel_rfl) (by kernel_rfl) (by kernel_rfl) (by exact fun _ _ _ h => h) (Or.inl ⟨by rfl, ?_⟩) (by assumption) ?_
   rotate_left
   ·
    intro wS hSw
    go_simp
    all_goals first | with_reducible rfl | rw [if_neg (by omega)]
   simp only [Act.put, List.setIfInBounds_toArray, List.set]
   refine wpAnyL_ready (rs := [1]) (by kernel_rfl) (by simp) ?_
   refine AllReadyL.cons (o := _) (by (simp only [List.getElem?_toArray]; rfl)) (fun K hK => ?_) AllReadyL.nil
   refine step_build0M (by rfl) (by rfl) elmMg ?_
   obtain ⟨V3_1, hw_, kw_⟩ : ∃ V, V = V3_0.alloc (.cells #[] 34) ∧ Below V3_0.heap.size V3_0 V := ⟨_, rfl, (Below.refl _ _).alloc (Nat.le_refl _) _⟩
   rw [← hw_]
   clear hw_
   replace hS := KE.next hBW hS kw_
   replace x := carryB kw_ (lt_of_block x) x
   replace y := carryB kw_ (lt_of_block y) y
   replace z := carryB kw_ (lt_of_block z) z
   replace p := carryB kw_ (lt_of_block p) p
   replace KW := Lib.hid (below_next KW.out kw_)
   replace S := Lib.hid (S.out.below kw_)
   replace R3 := Lib.hid (R3.out.below kw_)
   replace S3 := Lib.hid (S3.out.below kw_)
   replace SA := Lib.hid (SA.out.below kw_)
   replace SB := Lib.hid (SB.out.below kw_)
   clear kw_
   refine hK.out _ _ (fun _ => hS) ?_
   clear hK K
   try simp only [Act.put, List.setIfInBounds_toArray, List.set]
   refine wpAnyL_ready (rs := [3]) (by kernel_rfl) (by simp) ?_
   refine AllReadyL.cons (o := _) (by (simp only [List.getElem?_toArray]; rfl)) (fun K hK => ?_) AllReadyL.nil
   refine step_append_newM V3_1.heap.size (by rfl) (.tmp 61) (.tmp 62) (by rfl) elmMg (by rfl) (by rfl) (fun z hz => mg_one (S.out.out.2 z hz)) (SA.out) (by rfl) (by simp only [maxLen]; omega) (by omega) (Nat.le_refl _) ?_
   intro a4 c4 V3_2 q_
   have hq_ : V3.heap.size ≤ V3_1.heap.size := Nat.le_trans hBW hS.2
   have kw_ := q_.below
   replace S := Lib.hid (S.out.newrowX q_)
   replace R3 := Lib.hid (R3.out.newrowX q_)
   replace S3 := Lib.hid (S3.out.newrowX q_)
   replace hS := KE.next hBW hS kw_
   replace x := carryB kw_ (lt_of_block x) x
   replace y := carryB kw_ (lt_of_block y) y
   replace z := carryB kw_ (lt_of_block z) z
   replace p := carryB kw_ (lt_of_block p) p
   replace KW := Lib.hid (below_next KW.out kw_)
   replace SA := Lib.hid (SA.out.below kw_)
   replace SB := Lib.hid (SB.out.below kw_)
   clear kw_
   have RT := Lib.hid (q_.row.low hq_)
   clear q_ hq_
   refine hK.out _ _ (fun _ => hS) ?_
   clear hK K
   try simp only [Act.put, List.setIfInBounds_toArray, List.set]
   refine wpAnyL_ready (rs := [5]) (by kernel_rfl) (by simp) ?_
   refine AllReadyL.cons (o := _) (by (simp only [List.getElem?_toArray]; rfl)) (fun K hK => ?_) AllReadyL.nil
   refine step_append_elm (by rfl) (.tmp 63) (.tmp 64) (by rfl) (0 + sy3.length) elmMg (by rfl) (by rfl) RT.out (fun z hz => mg_one (S3.out.out.2 z hz)) SB.out (by rfl) (by rfl) (by rfl) (by simp only [maxLen]; omega) (by omega) (Nat.le_trans hBW hS.2) ?_
   intro a5 c5 V3_3 q_
   have hrb_ : ∀ g, rowBlk _ _ = some g → V3.heap.size ≤ g := fun g hg => (RT.out.blk hg).1
   have kB_ : Below V3.heap.size V3_2 V3_3 := q_.below (Nat.le_trans hBW hS.2) hrb_
   replace hS := KE.bel hS kB_
   replace x := carryB kB_ (by omega) x
   replace y := carryB kB_ (by omega) y
   replace z := carryB kB_ (by omega) z
   replace p := carryB kB_ (by omega) p
   replace KW := Lib.hid (KW.out.trans (kB_.mono (by omega)))
   have RT2 := Lib.hid (q_.row)
   have R3 := Lib.hid (R3.out.appendedX q_)
   have S := Lib.hid (S.out.appendedX q_)
   have S3 := Lib.hid (S3.out.appendedX q_)
   clear q_ hrb_ kB_
   refine hK.out _ _ (fun _ => hS) ?_
   clear hK K
   try simp only [Act.put, List.setIfInBounds_toArray, List.set]
   refine wpAnyL_ready (rs := [6]) (by kernel_rfl) (by simp) ?_
   refine AllReadyL.cons (o := _) (by (simp only [List.getElem?_toArray]; rfl)) (fun K hK => ?_) AllReadyL.nil
   have cq_ := cell_of_block z
   have fq_ := unfrozen_of_block z
   have lq_ := lt_of_block z
   go_simp
   obtain ⟨V3_4, hV_, sV_, zV_, oV_, kV_⟩ := stored7 V3_3 (w.heap.size + 1 + 1) _ _ _ _ _ _ _ (.int .i64 r3.me) (.int .i64 r3.view) (.bool r3.live) (.int .i64 r3.nx) (.slice r3.ta r3.tk.length r3.tc) (.slice r3.ha r3.hd.length r3.hc) (.slice r3.da r3.dn.length r3.dc) z
   rw [← hV_]
   clear hV_ cq_ fq_ lq_
   replace R3 := Lib.hid (R3.out.stored sV_ oV_ (.inl (hin _ (by omega) (by omega))))
   replace S := Lib.hid (S.out.stored sV_ oV_ (.inl (hin _ (by omega) (by omega))))
   replace S3 := Lib.hid (S3.out.stored sV_ oV_ (.inl (hin _ (by omega) (by omega))))
   replace RT2 := Lib.hid (RT2.out.later sV_ oV_ (by omega))
   replace x := (oV_ _ (by omega)).trans x
   replace y := (oV_ _ (by omega)).trans y
   replace p := (oV_ _ (by omega)).trans p
   replace z := zV_
   replace KW := Lib.hid (KW.out.trans (kV_.mono (by omega)))
   replace hS := KE.store hS sV_ oV_
   clear kV_ oV_ sV_ zV_
   refine hK.out _ _ (fun _ => hS) ?_
   clear hK K
   try simp only [Act.put, List.setIfInBounds_toArray, List.set]
   refine wpAnyL_take (i := 7) (oi := _) (v := ?_) (by (simp only [List.getElem?_toArray]; rfl)) (by kernel_rfl) (by kernel_rfl) (by kernel_rfl) (by kernel_rfl) (by exact fun _ _ _ h => h) (Or.inl ⟨by rfl, ?_⟩) (by assumption) ?_
   rotate_left
   ·
    intro wS hSw
    go_simp
    all_goals first | with_reducible rfl | rw [if_neg (by omega)]
   simp only [Act.put, List.setIfInBounds_toArray, List.set]
   refine wpAnyL_done (by kernel_rfl) ?_ _
   clear cx fx lx cy fy ly cz fz lz cp fp lp
   clear hS x y p
   have cz := cell_of_block z
   have fz := unfrozen_of_block z
   have lz := lt_of_block z
   go_wp2_with fail
   refine bodyPost_ret (v := .tuple #[.agg #[.int .i64 r3.me, .int .i64 r3.view, .bool r3.live, .int .i64 r3.nx, .slice r3.ta r3.tk.length r3.tc, .slice r3.ha r3.hd.length r3.hc, .slice r3.da r3.dn.length r3.dc], .slice a5 (0 + sy3.length) c5]) (by simp [results, Try.results85, go_sem, cz]) rfl ?_
   refine ⟨r3, a5, c5, ([] : List Mg) ++ sy3, by first | rfl | simp, R3.out.weak (fun b hb => .inl (hsub b hb)), F3.out, ?_, fit_append MF.out MF3.out, by simp; omega, KW.out⟩
   refine fun V' hV' => ⟨Rob.ofLo (B := V3.heap.size) (F := fun V' => IsSl V' (.slice a5 (([] : List Mg) ++ sy3).length c5) 11 Mg.cs (([] : List Mg) ++ sy3)) (RT2.out.rob eleven_len) (fun b hb => Nat.lt_of_lt_of_le (hlt b (hsub b hb)) hs) V' hV', fun m' hm' => (List.mem_append.1 hm').elim (fun h' => (S.out.weak (fun b hb => .inl (hsub b hb)) V' hV').2 m' h') (fun h' => (S3.out.weak (fun b hb => .inl (hsub b hb)) V' hV').2 m' h')⟩
 | false =>
  clear cx fx lx cy fy ly cz fz lz
  have n5 : (m.k == 5) = false := by
   have h35 : ¬ (3 ≤ m.k ∧ m.k ≤ 5) := by simpa [inB] using hqi
   simp
   omega
  clear hqi
  have F := HF
  obtain ⟨p1, hp1⟩ : ∃ q, (m.k == 1) = q := ⟨_, rfl⟩
  obtain ⟨p2, hp2⟩ : ∃ q, (m.k == 2) = q := ⟨_, rfl⟩
  obtain ⟨p6, hp6⟩ : ∃ q, (m.k == 6) = q := ⟨_, rfl⟩
  cases p1 with
  | true =>
   have cx := cell_of_block x
   have fx := unfrozen_of_block x
   have lx := lt_of_block x
   have cy := cell_of_block y
   have fy := unfrozen_of_block y
   have ly := lt_of_block y
   have cz := cell_of_block z
   have fz := unfrozen_of_block z
   have lz := lt_of_block z
   go_wp2_with fail
   refine (l5Ask_c X1 T D r _ m Y R.out F.out (HMX.out _ K) (fun b hb => Nat.lt_of_lt_of_le (hlt b hb) hs) (by omega)).mono ?_
   rintro e V1 ⟨r2, a2, c2, sy, rfl, hr2, hf2, hsy2, hmf2, hln2, k2_⟩
   clear cx fx lx cy fy ly cz fz lz
   have R := Lib.hid hr2
   have F := Lib.hid (hf2.more (by omega : _ ≤ T + 5) (Nat.le_refl D))
   have S := Lib.hid hsy2
   have MF := Lib.hid hmf2
   clear hr2 hf2 hsy2 hmf2
   have lx_ := lt_of_block x
   have ly_ := lt_of_block y
   have lz_ := lt_of_block z
   replace x := carryB k2_ lx_ x
   replace y := carryB k2_ ly_ y
   replace z := carryB k2_ lz_ z
   replace K := below_next K k2_
   replace hs := Nat.le_trans hs k2_.size
   clear k2_ lx_ ly_ lz_
   have hl6 : sy.length ≤ 6 := by omega
   clear hln2
   have cx := cell_of_block x
   have fx := unfrozen_of_block x
   have lx := lt_of_block x
   have cy := cell_of_block y
   have fy := unfrozen_of_block y
   have ly := lt_of_block y
   have cz := cell_of_block z
   have fz := unfrozen_of_block z
   have lz := lt_of_block z
   go_upto_region 13 with fail
   obtain ⟨VV, hV_, sV, xV, oV, kV⟩ := stored7 V1 w.heap.size _ _ _ _ _ _ _ (.int .i64 r2.me) (.int .i64 r2.view) (.bool r2.live) (.int .i64 r2.nx) (.slice r2.ta r2.tk.length r2.tc) (.slice r2.ha r2.hd.length r2.hc) (.slice r2.da r2.dn.length r2.dc) x
   rw [← hV_]
   clear hV_
   clear cx fx lx cy fy ly cz fz lz
   replace x := xV
   replace y := (oV _ (by omega)).trans y
   replace z := (oV _ (by omega)).trans z
   replace R := Lib.hid (R.out.stored sV oV (hin _ (by omega) (by omega)))
   replace S := Lib.hid (S.out.stored sV oV (hin _ (by omega) (by omega)))
   replace K := K.trans (kV.mono (by omega))
   replace hs : W.heap.size ≤ VV.heap.size := by omega
   clear xV oV kV sV
   have cx := cell_of_block x
   have fx := unfrozen_of_block x
   have lx := lt_of_block x
   have cy := cell_of_block y
   have fy := unfrozen_of_block y
   have ly := lt_of_block y
   have cz := cell_of_block z
   have fz := unfrozen_of_block z
   have lz := lt_of_block z
   go_wp2_with fail
   refine (l5Go_c X1 (T + 5) D r2 VV R.out F.out (fun b hb => Nat.lt_of_lt_of_le (hlt b hb) hs) (by omega) (by omega)).mono ?_
   rintro e V2 ⟨r3, a3, c3, sy3, rfl, hr3, hf3, hsy3, hmf3, hln3, k2_⟩
   clear cx fx lx cy fy ly cz fz lz
   clear R F
   have R3 := Lib.hid hr3
   have F3 := Lib.hid hf3
   have S3 := Lib.hid hsy3
   have MF3 := Lib.hid hmf3
   clear hr3 hf3 hsy3 hmf3
   have lx_ := lt_of_block x
   have ly_ := lt_of_block y
   have lz_ := lt_of_block z
   replace x := carryB k2_ lx_ x
   replace y := carryB k2_ ly_ y
   replace z := carryB k2_ lz_ z
   replace S := Lib.hid (S.out.below k2_)
   replace K := below_next K k2_
   replace hs := Nat.le_trans hs k2_.size
   clear k2_ lx_ ly_ lz_
   have cx := cell_of_block x
   have fx := unfrozen_of_block x
   have lx := lt_of_block x
   have cy := cell_of_block y
   have fy := unfrozen_of_block y
   have ly := lt_of_block y
   have cz := cell_of_block z
   have fz := unfrozen_of_block z
   have lz := lt_of_block z
   go_upto_region 14 with fail
   have hne_ : ¬ (V2.heap.size = w.heap.size + 1 + 1) := by omega
   obtain ⟨V3, hV_, sV3, p, k1_⟩ := blocks1 V2 (.cells #[.int .i64 r3.me, .int .i64 r3.view, .bool r3.live, .int .i64 r3.nx, .slice r3.ta r3.tk.length r3.tc, .slice r3.ha r3.hd.length r3.hc, .slice r3.da r3.dn.length r3.dc] 78)
   rw [← hV_]
   clear hV_
   clear cx fx lx cy fy ly cz fz lz
   have lx_ := lt_of_block x
   have ly_ := lt_of_block y
   have lz_ := lt_of_block z
   replace x := carryB k1_ lx_ x
   replace y := carryB k1_ ly_ y
   replace z := carryB k1_ lz_ z
   replace S := Lib.hid (S.out.below k1_)
   replace R3 := Lib.hid (R3.out.below k1_)
   replace S3 := Lib.hid (S3.out.below k1_)
   replace K := below_next K k1_
   replace hs := Nat.le_trans hs k1_.size
   clear k1_ lx_ ly_ lz_
   have KW := Lib.hid K
   have SA := Lib.hid (S.out.out.1.bounds.2.2.2)
   have SB := Lib.hid (S3.out.out.1.bounds.2.2.2)
   clear sV3
   have hBW := Nat.le_refl V3.heap.size
   have cx := cell_of_block x
   have fx := unfrozen_of_block x
   have lx := lt_of_block x
   have cy := cell_of_block y
   have fy := unfrozen_of_block y
   have ly := lt_of_block y
   have cz := cell_of_block z
   have fz := unfrozen_of_block z
   have lz := lt_of_block z
   have cp := cell_of_block p
   have fp := unfrozen_of_block p
   have lp := lt_of_block p
   refine wp_region_L (fun w' => (∀ b o, b < V3.heap.size → b ≠ w.heap.size + 1 + 1 → w'.cell? ⟨b, o, none⟩ = V3.cell? ⟨b, o, none⟩) ∧ V3.heap.size ≤ w'.heap.size) [] (by kernel_rfl) ?_
   obtain ⟨V3_0, hw_, kw_⟩ : ∃ wd, wd = V3.drew ∧ Below V3.heap.size V3 wd := ⟨_, rfl, Below.drew (Below.refl _ _)⟩
   rw [← hw_]
   clear hw_
   have hS := KE.next hBW (KE.refl V3.heap.size (w.heap.size + 1 + 1) V3) kw_
   replace x := carryB kw_ (lt_of_block x) x
   replace y := carryB kw_ (lt_of_block y) y
   replace z := carryB kw_ (lt_of_block z) z
   replace p := carryB kw_ (lt_of_block p) p
   replace KW := Lib.hid (below_next KW.out kw_)
   replace S := Lib.hid (S.out.below kw_)
   replace R3 := Lib.hid (R3.out.below kw_)
   replace S3 := Lib.hid (S3.out.below kw_)
   replace SA := Lib.hid (SA.out.below kw_)
   replace SB := Lib.hid (SB.out.below kw_)
   clear kw_
   refine wpAnyL_take (i := 0) (oi := _) (v := ?_) (by (simp only [List.getElem?_toArray]; rfl)) (by kernel_rfl) (by kernel_rfl) (by kernel_rfl) (by kernel_rfl) (by exact fun _ _ _ h => h) (Or.inl ⟨by rfl, ?_⟩) (by assumption) ?_
   rotate_left
   ·
    intro wS hSw
    go_simp
    all_goals first | with_reducible rfl | rw [if_neg (by omega)]
   simp only [Act.put, List.setIfInBounds_toArray, List.set]
   refine wpAnyL_take (i := 2) (oi := _) (v := ?_) (by (simp only [List.getElem?_toArray]; rfl)) (by kernel_rfl) (by kernel_rfl) (by kernel_rfl) (by kernel_rfl) (by exact fun _ _ _ h => h) (Or.inl ⟨by rfl, ?_⟩) (by assumption) ?_
   rotate_left
   ·
    intro wS hSw
    go_simp
    all_goals first | with_reducible rfl | rw [if_neg (by omega)]
   simp only [Act.put, List.setIfInBounds_toArray, List.set]
   refine wpAnyL_take (i := 4) (oi := _) (v := ?_) (by (simp only [List.getElem?_toArray]; rfl)) (by kernel_rfl) (by kernel_rfl) (by kernel_rfl) (by kernel_rfl) (by exact fun _ _ _ h => h) (Or.inl ⟨by rfl, ?_⟩) (by assumption) ?_
   rotate_left
   ·
    intro wS hSw
    go_simp
    all_goals first | with_reducible rfl | rw [if_neg (by omega)]
   simp only [Act.put, List.setIfInBounds_toArray, List.set]
   refine wpAnyL_ready (rs := [1]) (by kernel_rfl) (by simp) ?_
   refine AllReadyL.cons (o := _) (by (simp only [List.getElem?_toArray]; rfl)) (fun K hK => ?_) AllReadyL.nil
   refine step_build0M (by rfl) (by rfl) elmMg ?_
   obtain ⟨V3_1, hw_, kw_⟩ : ∃ V, V = V3_0.alloc (.cells #[] 34) ∧ Below V3_0.heap.size V3_0 V := ⟨_, rfl, (Below.refl _ _).alloc (Nat.le_refl _) _⟩
   rw [← hw_]
   clear hw_
   replace hS := KE.next hBW hS kw_
   replace x := carryB kw_ (lt_of_block x) x
   replace y := carryB kw_ (lt_of_block y) y
   replace z := carryB kw_ (lt_of_block z) z
   replace p := carryB kw_ (lt_of_block p) p
   replace KW := Lib.hid (below_next KW.out kw_)
   replace S := Lib.hid (S.out.below kw_)
   replace R3 := Lib.hid (R3.out.below kw_)
   replace S3 := Lib.hid (S3.out.below kw_)
   replace SA := Lib.hid (SA.out.below kw_)
   replace SB := Lib.hid (SB.out.below kw_)
   clear kw_
   refine hK.out _ _ (fun _ => hS) ?_
   clear hK K
   try simp only [Act.put, List.setIfInBounds_toArray, List.set]
   refine wpAnyL_ready (rs := [3]) (by kernel_rfl) (by simp) ?_
   refine AllReadyL.cons (o := _) (by (simp only [List.getElem?_toArray]; rfl)) (fun K hK => ?_) AllReadyL.nil
   refine step_append_newM V3_1.heap.size (by rfl) (.tmp 61) (.tmp 62) (by rfl) elmMg (by rfl) (by rfl) (fun z hz => mg_one (S.out.out.2 z hz)) (SA.out) (by rfl) (by simp only [maxLen]; omega) (by omega) (Nat.le_refl _) ?_
   intro a4 c4 V3_2 q_
   have hq_ : V3.heap.size ≤ V3_1.heap.size := Nat.le_trans hBW hS.2
   have kw_ := q_.below
   replace S := Lib.hid (S.out.newrowX q_)
   replace R3 := Lib.hid (R3.out.newrowX q_)
   replace S3 := Lib.hid (S3.out.newrowX q_)
   replace hS := KE.next hBW hS kw_
   replace x := carryB kw_ (lt_of_block x) x
   replace y := carryB kw_ (lt_of_block y) y
   replace z := carryB kw_ (lt_of_block z) z
   replace p := carryB kw_ (lt_of_block p) p
   replace KW := Lib.hid (below_next KW.out kw_)
   replace SA := Lib.hid (SA.out.below kw_)
   replace SB := Lib.hid (SB.out.below kw_)
   clear kw_
   have RT := Lib.hid (q_.row.low hq_)
   clear q_ hq_
   refine hK.out _ _ (fun _ => hS) ?_
   clear hK K
   try simp only [Act.put, List.setIfInBounds_toArray, List.set]
   refine wpAnyL_ready (rs := [5]) (by kernel_rfl) (by simp) ?_
   refine AllReadyL.cons (o := _) (by (simp only [List.getElem?_toArray]; rfl)) (fun K hK => ?_) AllReadyL.nil
   refine step_append_elm (by rfl) (.tmp 63) (.tmp 64) (by rfl) (sy.length + sy3.length) elmMg (by rfl) (by rfl) RT.out (fun z hz => mg_one (S3.out.out.2 z hz)) SB.out (by rfl) (by rfl) (by rfl) (by simp only [maxLen]; omega) (by omega) (Nat.le_trans hBW hS.2) ?_
   intro a5 c5 V3_3 q_
   have hrb_ : ∀ g, rowBlk _ _ = some g → V3.heap.size ≤ g := fun g hg => (RT.out.blk hg).1
   have kB_ : Below V3.heap.size V3_2 V3_3 := q_.below (Nat.le_trans hBW hS.2) hrb_
   replace hS := KE.bel hS kB_
   replace x := carryB kB_ (by omega) x
   replace y := carryB kB_ (by omega) y
   replace z := carryB kB_ (by omega) z
   replace p := carryB kB_ (by omega) p
   replace KW := Lib.hid (KW.out.trans (kB_.mono (by omega)))
   have RT2 := Lib.hid (q_.row)
   have R3 := Lib.hid (R3.out.appendedX q_)
   have S := Lib.hid (S.out.appendedX q_)
   have S3 := Lib.hid (S3.out.appendedX q_)
   clear q_ hrb_ kB_
   refine hK.out _ _ (fun _ => hS) ?_
   clear hK K
   try simp only [Act.put, List.setIfInBounds_toArray, List.set]
   refine wpAnyL_ready (rs := [6]) (by kernel_rfl) (by simp) ?_
   refine AllReadyL.cons (o := _) (by (simp only [List.getElem?_toArray]; rfl)) (fun K hK => ?_) AllReadyL.nil
   have cq_ := cell_of_block z
   have fq_ := unfrozen_of_block z
   have lq_ := lt_of_block z
   go_simp
   obtain ⟨V3_4, hV_, sV_, zV_, oV_, kV_⟩ := stored7 V3_3 (w.heap.size + 1 + 1) _ _ _ _ _ _ _ (.int .i64 r3.me) (.int .i64 r3.view) (.bool r3.live) (.int .i64 r3.nx) (.slice r3.ta r3.tk.length r3.tc) (.slice r3.ha r3.hd.length r3.hc) (.slice r3.da r3.dn.length r3.dc) z
   rw [← hV_]
   clear hV_ cq_ fq_ lq_
   replace R3 := Lib.hid (R3.out.stored sV_ oV_ (.inl (hin _ (by omega) (by omega))))
   replace S := Lib.hid (S.out.stored sV_ oV_ (.inl (hin _ (by omega) (by omega))))
   replace S3 := Lib.hid (S3.out.stored sV_ oV_ (.inl (hin _ (by omega) (by omega))))
   replace RT2 := Lib.hid (RT2.out.later sV_ oV_ (by omega))
   replace x := (oV_ _ (by omega)).trans x
   replace y := (oV_ _ (by omega)).trans y
   replace p := (oV_ _ (by omega)).trans p
   replace z := zV_
   replace KW := Lib.hid (KW.out.trans (kV_.mono (by omega)))
   replace hS := KE.store hS sV_ oV_
   clear kV_ oV_ sV_ zV_
   refine hK.out _ _ (fun _ => hS) ?_
   clear hK K
   try simp only [Act.put, List.setIfInBounds_toArray, List.set]
   refine wpAnyL_take (i := 7) (oi := _) (v := ?_) (by (simp only [List.getElem?_toArray]; rfl)) (by kernel_rfl) (by kernel_rfl) (by kernel_rfl) (by kernel_rfl) (by exact fun _ _ _ h => h) (Or.inl ⟨by rfl, ?_⟩) (by assumption) ?_
   rotate_left
   ·
    intro wS hSw
    go_simp
    all_goals first | with_reducible rfl | rw [if_neg (by omega)]
   simp only [Act.put, List.setIfInBounds_toArray, List.set]
   refine wpAnyL_done (by kernel_rfl) ?_ _
   clear cx fx lx cy fy ly cz fz lz cp fp lp
   clear hS x y p
   have cz := cell_of_block z
   have fz := unfrozen_of_block z
   have lz := lt_of_block z
   go_wp2_with fail
   refine bodyPost_ret (v := .tuple #[.agg #[.int .i64 r3.me, .int .i64 r3.view, .bool r3.live, .int .i64 r3.nx, .slice r3.ta r3.tk.length r3.tc, .slice r3.ha r3.hd.length r3.hc, .slice r3.da r3.dn.length r3.dc], .slice a5 (sy.length + sy3.length) c5]) (by simp [results, Try.results85, go_sem, cz]) rfl ?_
   refine ⟨r3, a5, c5, sy ++ sy3, by first | rfl | simp, R3.out.weak (fun b hb => .inl (hsub b hb)), F3.out, ?_, fit_append MF.out MF3.out, by simp; omega, KW.out⟩
   refine fun V' hV' => ⟨Rob.ofLo (B := V3.heap.size) (F := fun V' => IsSl V' (.slice a5 (sy ++ sy3).length c5) 11 Mg.cs (sy ++ sy3)) (RT2.out.rob eleven_len) (fun b hb => Nat.lt_of_lt_of_le (hlt b (hsub b hb)) hs) V' hV', fun m' hm' => (List.mem_append.1 hm').elim (fun h' => (S.out.weak (fun b hb => .inl (hsub b hb)) V' hV').2 m' h') (fun h' => (S3.out.weak (fun b hb => .inl (hsub b hb)) V' hV').2 m' h')⟩
  | false =>
   cases p2 with
   | true =>
    have cx := cell_of_block x
    have fx := unfrozen_of_block x
    have lx := lt_of_block x
    have cy := cell_of_block y
    have fy := unfrozen_of_block y
    have ly := lt_of_block y
    have cz := cell_of_block z
    have fz := unfrozen_of_block z
    have lz := lt_of_block z
    go_wp2_with fail
    refine (l5Offer_c X1 T D r _ _ m ms Y R.out F.out (HMX.out _ K) (HMSX.out _ K) (fun b hb => Nat.lt_of_lt_of_le (hlt b hb) hs) (by omega)).mono ?_
    rintro e V1 ⟨r2, a2, c2, sy, rfl, hr2, hf2, hsy2, hmf2, hln2, k2_⟩
    clear cx fx lx cy fy ly cz fz lz
    have R := Lib.hid hr2
    have F := Lib.hid (hf2.more (by omega : _ ≤ T + 5) (Nat.le_refl D))
    have S := Lib.hid hsy2
    have MF := Lib.hid hmf2
    clear hr2 hf2 hsy2 hmf2
    have lx_ := lt_of_block x
    have ly_ := lt_of_block y
    have lz_ := lt_of_block z
    replace x := carryB k2_ lx_ x
    replace y := carryB k2_ ly_ y
    replace z := carryB k2_ lz_ z
    replace K := below_next K k2_
    replace hs := Nat.le_trans hs k2_.size
    clear k2_ lx_ ly_ lz_
    have hl6 : sy.length ≤ 6 := by omega
    clear hln2
    have cx := cell_of_block x
    have fx := unfrozen_of_block x
    have lx := lt_of_block x
    have cy := cell_of_block y
    have fy := unfrozen_of_block y
    have ly := lt_of_block y
    have cz := cell_of_block z
    have fz := unfrozen_of_block z
    have lz := lt_of_block z
    go_upto_region 13 with fail
    obtain ⟨VV, hV_, sV, xV, oV, kV⟩ := stored7 V1 w.heap.size _ _ _ _ _ _ _ (.int .i64 r2.me) (.int .i64 r2.view) (.bool r2.live) (.int .i64 r2.nx) (.slice r2.ta r2.tk.length r2.tc) (.slice r2.ha r2.hd.length r2.hc) (.slice r2.da r2.dn.length r2.dc) x
    rw [← hV_]
    clear hV_
    clear cx fx lx cy fy ly cz fz lz
    replace x := xV
    replace y := (oV _ (by omega)).trans y
    replace z := (oV _ (by omega)).trans z
    replace R := Lib.hid (R.out.stored sV oV (hin _ (by omega) (by omega)))
    replace S := Lib.hid (S.out.stored sV oV (hin _ (by omega) (by omega)))
    replace K := K.trans (kV.mono (by omega))
    replace hs : W.heap.size ≤ VV.heap.size := by omega
    clear xV oV kV sV
    have cx := cell_of_block x
    have fx := unfrozen_of_block x
    have lx := lt_of_block x
    have cy := cell_of_block y
    have fy := unfrozen_of_block y
    have ly := lt_of_block y
    have cz := cell_of_block z
    have fz := unfrozen_of_block z
    have lz := lt_of_block z
    go_wp2_with fail
    refine (l5Go_c X1 (T + 5) D r2 VV R.out F.out (fun b hb => Nat.lt_of_lt_of_le (hlt b hb) hs) (by omega) (by omega)).mono ?_
    rintro e V2 ⟨r3, a3, c3, sy3, rfl, hr3, hf3, hsy3, hmf3, hln3, k2_⟩
    clear cx fx lx cy fy ly cz fz lz
    clear R F
    have R3 := Lib.hid hr3
    have F3 := Lib.hid hf3
    have S3 := Lib.hid hsy3
    have MF3 := Lib.hid hmf3
    clear hr3 hf3 hsy3 hmf3
    have lx_ := lt_of_block x
    have ly_ := lt_of_block y
    have lz_ := lt_of_block z
    replace x := carryB k2_ lx_ x
    replace y := carryB k2_ ly_ y
    replace z := carryB k2_ lz_ z
    replace S := Lib.hid (S.out.below k2_)
    replace K := below_next K k2_
    replace hs := Nat.le_trans hs k2_.size
    clear k2_ lx_ ly_ lz_
    have cx := cell_of_block x
    have fx := unfrozen_of_block x
    have lx := lt_of_block x
    have cy := cell_of_block y
    have fy := unfrozen_of_block y
    have ly := lt_of_block y
    have cz := cell_of_block z
    have fz := unfrozen_of_block z
    have lz := lt_of_block z
    go_upto_region 14 with fail
    have hne_ : ¬ (V2.heap.size = w.heap.size + 1 + 1) := by omega
    obtain ⟨V3, hV_, sV3, p, k1_⟩ := blocks1 V2 (.cells #[.int .i64 r3.me, .int .i64 r3.view, .bool r3.live, .int .i64 r3.nx, .slice r3.ta r3.tk.length r3.tc, .slice r3.ha r3.hd.length r3.hc, .slice r3.da r3.dn.length r3.dc] 78)
    rw [← hV_]
    clear hV_
    clear cx fx lx cy fy ly cz fz lz
    have lx_ := lt_of_block x
    have ly_ := lt_of_block y
    have lz_ := lt_of_block z
    replace x := carryB k1_ lx_ x
    replace y := carryB k1_ ly_ y
    replace z := carryB k1_ lz_ z
    replace S := Lib.hid (S.out.below k1_)
    replace R3 := Lib.hid (R3.out.below k1_)
    replace S3 := Lib.hid (S3.out.below k1_)
    replace K := below_next K k1_
    replace hs := Nat.le_trans hs k1_.size
    clear k1_ lx_ ly_ lz_
    have KW := Lib.hid K
    have SA := Lib.hid (S.out.out.1.bounds.2.2.2)
    have SB := Lib.hid (S3.out.out.1.bounds.2.2.2)
    clear sV3
    have hBW := Nat.le_refl V3.heap.size
    have cx := cell_of_block x
    have fx := unfrozen_of_block x
    have lx := lt_of_block x
    have cy := cell_of_block y
    have fy := unfrozen_of_block y
    have ly := lt_of_block y
    have cz := cell_of_block z
    have fz := unfrozen_of_block z
    have lz := lt_of_block z
    have cp := cell_of_block p
    have fp := unfrozen_of_block p
    have lp := lt_of_block p
    refine wp_region_L (fun w' => (∀ b o, b < V3.heap.size → b ≠ w.heap.size + 1 + 1 → w'.cell? ⟨b, o, none⟩ = V3.cell? ⟨b, o, none⟩) ∧ V3.heap.size ≤ w'.heap.size) [] (by kernel_rfl) ?_
    obtain ⟨V3_0, hw_, kw_⟩ : ∃ wd, wd = V3.drew ∧ Below V3.heap.size V3 wd := ⟨_, rfl, Below.drew (Below.refl _ _)⟩
    rw [← hw_]
    clear hw_
    have hS := KE.next hBW (KE.refl V3.heap.size (w.heap.size + 1 + 1) V3) kw_
    replace x := carryB kw_ (lt_of_block x) x
    replace y := carryB kw_ (lt_of_block y) y
    replace z := carryB kw_ (lt_of_block z) z
    replace p := carryB kw_ (lt_of_block p) p
    replace KW := Lib.hid (below_next KW.out kw_)
    replace S := Lib.hid (S.out.below kw_)
    replace R3 := Lib.hid (R3.out.below kw_)
    replace S3 := Lib.hid (S3.out.below kw_)
    replace SA := Lib.hid (SA.out.below kw_)
    replace SB := Lib.hid (SB.out.below kw_)
    clear kw_
    refine wpAnyL_take (i := 0) (oi := _) (v := ?_) (by (simp only [List.getElem?_toArray]; rfl)) (by kernel_rfl) (by kernel_rfl) (by kernel_rfl) (by kernel_rfl) (by exact fun _ _ _ h => h) (Or.inl ⟨by rfl, ?_⟩) (by assumption) ?_
    rotate_left
    ·
     intro wS hSw
     go_simp
     all_goals first | with_reducible rfl | rw [if_neg (by omega)]
    simp only [Act.put, List.setIfInBounds_toArray, List.set]
    refine wpAnyL_take (i := 2) (oi := _) (v := ?_) (by (simp only [List.getElem?_toArray]; rfl)) (by kernel_rfl) (by kernel_rfl) (by kernel_rfl) (by kernel_rfl) (by exact fun _ _ _ h => h) (Or.inl ⟨by rfl, ?_⟩) (by assumption) ?_
    rotate_left
    ·
     intro wS hSw
     go_simp
     all_goals first | with_reducible rfl | rw [if_neg (by omega)]
    simp only [Act.put, List.setIfInBounds_toArray, List.set]
    refine wpAnyL_take (i := 4) (oi := _) (v := ?_) (by (simp only [List.getElem?_toArray]; rfl)) (by kernel_rfl) (by kernel_rfl) (by kernel_rfl) (by kernel_rfl) (by exact fun _ _ _ h => h) (Or.inl ⟨by rfl, ?_⟩) (by assumption) ?_
    rotate_left
    ·
     intro wS hSw
     go_simp
     all_goals first | with_reducible rfl | rw [if_neg (by omega)]
    simp only [Act.put, List.setIfInBounds_toArray, List.set]
    refine wpAnyL_ready (rs := [1]) (by kernel_rfl) (by simp) ?_
    refine AllReadyL.cons (o := _) (by (simp only [List.getElem?_toArray]; rfl)) (fun K hK => ?_) AllReadyL.nil
    refine step_build0M (by rfl) (by rfl) elmMg ?_
    obtain ⟨V3_1, hw_, kw_⟩ : ∃ V, V = V3_0.alloc (.cells #[] 34) ∧ Below V3_0.heap.size V3_0 V := ⟨_, rfl, (Below.refl _ _).alloc (Nat.le_refl _) _⟩
    rw [← hw_]
    clear hw_
    replace hS := KE.next hBW hS kw_
    replace x := carryB kw_ (lt_of_block x) x
    replace y := carryB kw_ (lt_of_block y) y
    replace z := carryB kw_ (lt_of_block z) z
    replace p := carryB kw_ (lt_of_block p) p
    replace KW := Lib.hid (below_next KW.out kw_)
    replace S := Lib.hid (S.out.below kw_)
    replace R3 := Lib.hid (R3.out.below kw_)
    replace S3 := Lib.hid (S3.out.below kw_)
    replace SA := Lib.hid (SA.out.below kw_)
    replace SB := Lib.hid (SB.out.below kw_)
    clear kw_
    refine hK.out _ _ (fun _ => hS) ?_
    clear hK K
    try simp only [Act.put, List.setIfInBounds_toArray, List.set]
    refine wpAnyL_ready (rs := [3]) (by kernel_rfl) (by simp) ?_
    refine AllReadyL.cons (o := _) (by (simp only [List.getElem?_toArray]; rfl)) (fun K hK => ?_) AllReadyL.nil
    refine step_append_newM V3_1.heap.size (by rfl) (.tmp 61) (.tmp 62) (by rfl) elmMg (by rfl) (by rfl) (fun z hz => mg_one (S.out.out.2 z hz)) (SA.out) (by rfl) (by simp only [maxLen]; omega) (by omega) (Nat.le_refl _) ?_
    intro a4 c4 V3_2 q_
    have hq_ : V3.heap.size ≤ V3_1.heap.size := Nat.le_trans hBW hS.2
    have kw_ := q_.below
    replace S := Lib.hid (S.out.newrowX q_)
    replace R3 := Lib.hid (R3.out.newrowX q_)
    replace S3 := Lib.hid (S3.out.newrowX q_)
    replace hS := KE.next hBW hS kw_
    replace x := carryB kw_ (lt_of_block x) x
    replace y := carryB kw_ (lt_of_block y) y
    replace z := carryB kw_ (lt_of_block z) z
    replace p := carryB kw_ (lt_of_block p) p
    replace KW := Lib.hid (below_next KW.out kw_)
    replace SA := Lib.hid (SA.out.below kw_)
    replace SB := Lib.hid (SB.out.below kw_)
    clear kw_
    have RT := Lib.hid (q_.row.low hq_)
    clear q_ hq_
    refine hK.out _ _ (fun _ => hS) ?_
    clear hK K
    try simp only [Act.put, List.setIfInBounds_toArray, List.set]
    refine wpAnyL_ready (rs := [5]) (by kernel_rfl) (by simp) ?_
    refine AllReadyL.cons (o := _) (by (simp only [List.getElem?_toArray]; rfl)) (fun K hK => ?_) AllReadyL.nil
    refine step_append_elm (by rfl) (.tmp 63) (.tmp 64) (by rfl) (sy.length + sy3.length) elmMg (by rfl) (by rfl) RT.out (fun z hz => mg_one (S3.out.out.2 z hz)) SB.out (by rfl) (by rfl) (by rfl) (by simp only [maxLen]; omega) (by omega) (Nat.le_trans hBW hS.2) ?_
    intro a5 c5 V3_3 q_
    have hrb_ : ∀ g, rowBlk _ _ = some g → V3.heap.size ≤ g := fun g hg => (RT.out.blk hg).1
    have kB_ : Below V3.heap.size V3_2 V3_3 := q_.below (Nat.le_trans hBW hS.2) hrb_
    replace hS := KE.bel hS kB_
    replace x := carryB kB_ (by omega) x
    replace y := carryB kB_ (by omega) y
    replace z := carryB kB_ (by omega) z
    replace p := carryB kB_ (by omega) p
    replace KW := Lib.hid (KW.out.trans (kB_.mono (by omega)))
    have RT2 := Lib.hid (q_.row)
    have R3 := Lib.hid (R3.out.appendedX q_)
    have S := Lib.hid (S.out.appendedX q_)
    have S3 := Lib.hid (S3.out.appendedX q_)
    clear q_ hrb_ kB_
    refine hK.out _ _ (fun _ => hS) ?_
    clear hK K
    try simp only [Act.put, List.setIfInBounds_toArray, List.set]
    refine wpAnyL_ready (rs := [6]) (by kernel_rfl) (by simp) ?_
    refine AllReadyL.cons (o := _) (by (simp only [List.getElem?_toArray]; rfl)) (fun K hK => ?_) AllReadyL.nil
    have cq_ := cell_of_block z
    have fq_ := unfrozen_of_block z
    have lq_ := lt_of_block z
    go_simp
    obtain ⟨V3_4, hV_, sV_, zV_, oV_, kV_⟩ := stored7 V3_3 (w.heap.size + 1 + 1) _ _ _ _ _ _ _ (.int .i64 r3.me) (.int .i64 r3.view) (.bool r3.live) (.int .i64 r3.nx) (.slice r3.ta r3.tk.length r3.tc) (.slice r3.ha r3.hd.length r3.hc) (.slice r3.da r3.dn.length r3.dc) z
    rw [← hV_]
    clear hV_ cq_ fq_ lq_
    replace R3 := Lib.hid (R3.out.stored sV_ oV_ (.inl (hin _ (by omega) (by omega))))
    replace S := Lib.hid (S.out.stored sV_ oV_ (.inl (hin _ (by omega) (by omega))))
    replace S3 := Lib.hid (S3.out.stored sV_ oV_ (.inl (hin _ (by omega) (by omega))))
    replace RT2 := Lib.hid (RT2.out.later sV_ oV_ (by omega))
    replace x := (oV_ _ (by omega)).trans x
    replace y := (oV_ _ (by omega)).trans y
    replace p := (oV_ _ (by omega)).trans p
    replace z := zV_
    replace KW := Lib.hid (KW.out.trans (kV_.mono (by omega)))
    replace hS := KE.store hS sV_ oV_
    clear kV_ oV_ sV_ zV_
    refine hK.out _ _ (fun _ => hS) ?_
    clear hK K
    try simp only [Act.put, List.setIfInBounds_toArray, List.set]
    refine wpAnyL_take (i := 7) (oi := _) (v := ?_) (by (simp only [List.getElem?_toArray]; rfl)) (by kernel_rfl) (by kernel_rfl) (by kernel_rfl) (by kernel_rfl) (by exact fun _ _ _ h => h) (Or.inl ⟨by rfl, ?_⟩) (by assumption) ?_
    rotate_left
    ·
     intro wS hSw
     go_simp
     all_goals first | with_reducible rfl | rw [if_neg (by omega)]
    simp only [Act.put, List.setIfInBounds_toArray, List.set]
    refine wpAnyL_done (by kernel_rfl) ?_ _
    clear cx fx lx cy fy ly cz fz lz cp fp lp
    clear hS x y p
    have cz := cell_of_block z
    have fz := unfrozen_of_block z
    have lz := lt_of_block z
    go_wp2_with fail
    refine bodyPost_ret (v := .tuple #[.agg #[.int .i64 r3.me, .int .i64 r3.view, .bool r3.live, .int .i64 r3.nx, .slice r3.ta r3.tk.length r3.tc, .slice r3.ha r3.hd.length r3.hc, .slice r3.da r3.dn.length r3.dc], .slice a5 (sy.length + sy3.length) c5]) (by simp [results, Try.results85, go_sem, cz]) rfl ?_
    refine ⟨r3, a5, c5, sy ++ sy3, by first | rfl | simp, R3.out.weak (fun b hb => .inl (hsub b hb)), F3.out, ?_, fit_append MF.out MF3.out, by simp; omega, KW.out⟩
    refine fun V' hV' => ⟨Rob.ofLo (B := V3.heap.size) (F := fun V' => IsSl V' (.slice a5 (sy ++ sy3).length c5) 11 Mg.cs (sy ++ sy3)) (RT2.out.rob eleven_len) (fun b hb => Nat.lt_of_lt_of_le (hlt b (hsub b hb)) hs) V' hV', fun m' hm' => (List.mem_append.1 hm').elim (fun h' => (S.out.weak (fun b hb => .inl (hsub b hb)) V' hV').2 m' h') (fun h' => (S3.out.weak (fun b hb => .inl (hsub b hb)) V' hV').2 m' h')⟩
   | false =>
    cases p6 with
    | true =>
     have cx := cell_of_block x
     have fx := unfrozen_of_block x
     have lx := lt_of_block x
     have cy := cell_of_block y
     have fy := unfrozen_of_block y
     have ly := lt_of_block y
     have cz := cell_of_block z
     have fz := unfrozen_of_block z
     have lz := lt_of_block z
     go_wp2_with fail
     refine (l5Lead_c X1 T D r _ _ m ms Y R.out F.out (HMX.out _ K) HMF.out (HMSX.out _ K) HMSF.out (fun b hb => Nat.lt_of_lt_of_le (hlt b hb) hs) (by omega)).mono ?_
     rintro e V1 ⟨r2, a2, c2, sy, rfl, hr2, hf2, hsy2, hmf2, hln2, k2_⟩
     clear cx fx lx cy fy ly cz fz lz
     have R := Lib.hid hr2
     have F := Lib.hid (hf2.more (by omega : _ ≤ T + 5) (Nat.le_refl D))
     have S := Lib.hid hsy2
     have MF := Lib.hid hmf2
     clear hr2 hf2 hsy2 hmf2
     have lx_ := lt_of_block x
     have ly_ := lt_of_block y
     have lz_ := lt_of_block z
     replace x := carryB k2_ lx_ x
     replace y := carryB k2_ ly_ y
     replace z := carryB k2_ lz_ z
     replace K := below_next K k2_
     replace hs := Nat.le_trans hs k2_.size
     clear k2_ lx_ ly_ lz_
     have hl6 : sy.length ≤ 6 := by omega
     clear hln2
     have cx := cell_of_block x
     have fx := unfrozen_of_block x
     have lx := lt_of_block x
     have cy := cell_of_block y
     have fy := unfrozen_of_block y
     have ly := lt_of_block y
     have cz := cell_of_block z
     have fz := unfrozen_of_block z
     have lz := lt_of_block z
     go_upto_region 13 with fail
     obtain ⟨VV, hV_, sV, xV, oV, kV⟩ := stored7 V1 w.heap.size _ _ _ _ _ _ _ (.int .i64 r2.me) (.int .i64 r2.view) (.bool r2.live) (.int .i64 r2.nx) (.slice r2.ta r2.tk.length r2.tc) (.slice r2.ha r2.hd.length r2.hc) (.slice r2.da r2.dn.length r2.dc) x
     rw [← hV_]
     clear hV_
     clear cx fx lx cy fy ly cz fz lz
     replace x := xV
     replace y := (oV _ (by omega)).trans y
     replace z := (oV _ (by omega)).trans z
     replace R := Lib.hid (R.out.stored sV oV (hin _ (by omega) (by omega)))
     replace S := Lib.hid (S.out.stored sV oV (hin _ (by omega) (by omega)))
     replace K := K.trans (kV.mono (by omega))
     replace hs : W.heap.size ≤ VV.heap.size := by omega
     clear xV oV kV sV
     have cx := cell_of_block x
     have fx := unfrozen_of_block x
     have lx := lt_of_block x
     have cy := cell_of_block y
     have fy := unfrozen_of_block y
     have ly := lt_of_block y
     have cz := cell_of_block z
     have fz := unfrozen_of_block z
     have lz := lt_of_block z
     go_wp2_with fail
     refine (l5Go_c X1 (T + 5) D r2 VV R.out F.out (fun b hb => Nat.lt_of_lt_of_le (hlt b hb) hs) (by omega) (by omega)).mono ?_
     rintro e V2 ⟨r3, a3, c3, sy3, rfl, hr3, hf3, hsy3, hmf3, hln3, k2_⟩
     clear cx fx lx cy fy ly cz fz lz
     clear R F
     have R3 := Lib.hid hr3
     have F3 := Lib.hid hf3
     have S3 := Lib.hid hsy3
     have MF3 := Lib.hid hmf3
     clear hr3 hf3 hsy3 hmf3
     have lx_ := lt_of_block x
     have ly_ := lt_of_block y
     have lz_ := lt_of_block z
     replace x := carryB k2_ lx_ x
     replace y := carryB k2_ ly_ y
     replace z := carryB k2_ lz_ z
     replace S := Lib.hid (S.out.below k2_)
     replace K := below_next K k2_
     replace hs := Nat.le_trans hs k2_.size
     clear k2_ lx_ ly_ lz_
     have cx := cell_of_block x
     have fx := unfrozen_of_block x
     have lx := lt_of_block x
     have cy := cell_of_block y
     have fy := unfrozen_of_block y
     have ly := lt_of_block y
     have cz := cell_of_block z
     have fz := unfrozen_of_block z
     have lz := lt_of_block z
     go_upto_region 14 with fail
     have hne_ : ¬ (V2.heap.size = w.heap.size + 1 + 1) := by omega
     obtain ⟨V3, hV_, sV3, p, k1_⟩ := blocks1 V2 (.cells #[.int .i64 r3.me, .int .i64 r3.view, .bool r3.live, .int .i64 r3.nx, .slice r3.ta r3.tk.length r3.tc, .slice r3.ha r3.hd.length r3.hc, .slice r3.da r3.dn.length r3.dc] 78)
     rw [← hV_]
     clear hV_
     clear cx fx lx cy fy ly cz fz lz
     have lx_ := lt_of_block x
     have ly_ := lt_of_block y
     have lz_ := lt_of_block z
     replace x := carryB k1_ lx_ x
     replace y := carryB k1_ ly_ y
     replace z := carryB k1_ lz_ z
     replace S := Lib.hid (S.out.below k1_)
     replace R3 := Lib.hid (R3.out.below k1_)
     replace S3 := Lib.hid (S3.out.below k1_)
     replace K := below_next K k1_
     replace hs := Nat.le_trans hs k1_.size
     clear k1_ lx_ ly_ lz_
     have KW := Lib.hid K
     have SA := Lib.hid (S.out.out.1.bounds.2.2.2)
     have SB := Lib.hid (S3.out.out.1.bounds.2.2.2)
     clear sV3
     have hBW := Nat.le_refl V3.heap.size
     have cx := cell_of_block x
     have fx := unfrozen_of_block x
     have lx := lt_of_block x
     have cy := cell_of_block y
     have fy := unfrozen_of_block y
     have ly := lt_of_block y
     have cz := cell_of_block z
     have fz := unfrozen_of_block z
     have lz := lt_of_block z
     have cp := cell_of_block p
     have fp := unfrozen_of_block p
     have lp := lt_of_block p
     refine wp_region_L (fun w' => (∀ b o, b < V3.heap.size → b ≠ w.heap.size + 1 + 1 → w'.cell? ⟨b, o, none⟩ = V3.cell? ⟨b, o, none⟩) ∧ V3.heap.size ≤ w'.heap.size) [] (by kernel_rfl) ?_
     obtain ⟨V3_0, hw_, kw_⟩ : ∃ wd, wd = V3.drew ∧ Below V3.heap.size V3 wd := ⟨_, rfl, Below.drew (Below.refl _ _)⟩
     rw [← hw_]
     clear hw_
     have hS := KE.next hBW (KE.refl V3.heap.size (w.heap.size + 1 + 1) V3) kw_
     replace x := carryB kw_ (lt_of_block x) x
     replace y := carryB kw_ (lt_of_block y) y
     replace z := carryB kw_ (lt_of_block z) z
     replace p := carryB kw_ (lt_of_block p) p
     replace KW := Lib.hid (below_next KW.out kw_)
     replace S := Lib.hid (S.out.below kw_)
     replace R3 := Lib.hid (R3.out.below kw_)
     replace S3 := Lib.hid (S3.out.below kw_)
     replace SA := Lib.hid (SA.out.below kw_)
     replace SB := Lib.hid (SB.out.below kw_)
     clear kw_
     refine wpAnyL_take (i := 0) (oi := _) (v := ?_) (by (simp only [List.getElem?_toArray]; rfl)) (by kernel_rfl) (by kernel_rfl) (by kernel_rfl) (by kernel_rfl) (by exact fun _ _ _ h => h) (Or.inl ⟨by rfl, ?_⟩) (by assumption) ?_
     rotate_left
     ·
      intro wS hSw
      go_simp
      all_goals first | with_reducible rfl | rw [if_neg (by omega)]
     simp only [Act.put, List.setIfInBounds_toArray, List.set]
     refine wpAnyL_take (i := 2) (oi := _) (v := ?_) (by (simp only [List.getElem?_toArray]; rfl)) (by kernel_rfl) (by kernel_rfl) (by kernel_rfl) (by kernel_rfl) (by exact fun _ _ _ h => h) (Or.inl ⟨by rfl, ?_⟩) (by assumption) ?_
     rotate_left
     ·
      intro wS hSw
      go_simp
      all_goals first | with_reducible rfl | rw [if_neg (by omega)]
     simp only [Act.put, List.setIfInBounds_toArray, List.set]
     refine wpAnyL_take (i := 4) (oi := _) (v := ?_) (by (simp only [List.getElem?_toArray]; rfl)) (by kernel_rfl) (by kernel_rfl) (by kernel_rfl) (by kernel_rfl) (by exact fun _ _ _ h => h) (Or.inl ⟨by rfl, ?_⟩) (by assumption) ?_
     rotate_left
     ·
      intro wS hSw
      go_simp
      all_goals first | with_reducible rfl | rw [if_neg (by omega)]
     simp only [Act.put, List.setIfInBounds_toArray, List.set]
     refine wpAnyL_ready (rs := [1]) (by kernel_rfl) (by simp) ?_
     refine AllReadyL.cons (o := _) (by (simp only [List.getElem?_toArray]; rfl)) (fun K hK => ?_) AllReadyL.nil
     refine step_build0M (by rfl) (by rfl) elmMg ?_
     obtain ⟨V3_1, hw_, kw_⟩ : ∃ V, V = V3_0.alloc (.cells #[] 34) ∧ Below V3_0.heap.size V3_0 V := ⟨_, rfl, (Below.refl _ _).alloc (Nat.le_refl _) _⟩
     rw [← hw_]
     clear hw_
     replace hS := KE.next hBW hS kw_
     replace x := carryB kw_ (lt_of_block x) x
     replace y := carryB kw_ (lt_of_block y) y
     replace z := carryB kw_ (lt_of_block z) z
     replace p := carryB kw_ (lt_of_block p) p
     replace KW := Lib.hid (below_next KW.out kw_)
     replace S := Lib.hid (S.out.below kw_)
     replace R3 := Lib.hid (R3.out.below kw_)
     replace S3 := Lib.hid (S3.out.below kw_)
     replace SA := Lib.hid (SA.out.below kw_)
     replace SB := Lib.hid (SB.out.below kw_)
     clear kw_
     refine hK.out _ _ (fun _ => hS) ?_
     clear hK K
     try simp only [Act.put, List.setIfInBounds_toArray, List.set]
     refine wpAnyL_ready (rs := [3]) (by kernel_rfl) (by simp) ?_
     refine AllReadyL.cons (o := _) (by (simp only [List.getElem?_toArray]; rfl)) (fun K hK => ?_) AllReadyL.nil
     refine step_append_newM V3_1.heap.size (by rfl) (.tmp 61) (.tmp 62) (by rfl) elmMg (by rfl) (by rfl) (fun z hz => mg_one (S.out.out.2 z hz)) (SA.out) (by rfl) (by simp only [maxLen]; omega) (by omega) (Nat.le_refl _) ?_
     intro a4 c4 V3_2 q_
     have hq_ : V3.heap.size ≤ V3_1.heap.size := Nat.le_trans hBW hS.2
     have kw_ := q_.below
     replace S := Lib.hid (S.out.newrowX q_)
     replace R3 := Lib.hid (R3.out.newrowX q_)
     replace S3 := Lib.hid (S3.out.newrowX q_)
     replace hS := KE.next hBW hS kw_
     replace x := carryB kw_ (lt_of_block x) x
     replace y := carryB kw_ (lt_of_block y) y
     replace z := carryB kw_ (lt_of_block z) z
     replace p := carryB kw_ (lt_of_block p) p
     replace KW := Lib.hid (below_next KW.out kw_)
     replace SA := Lib.hid (SA.out.below kw_)
     replace SB := Lib.hid (SB.out.below kw_)
     clear kw_
     have RT := Lib.hid (q_.row.low hq_)
     clear q_ hq_
     refine hK.out _ _ (fun _ => hS) ?_
     clear hK K
     try simp only [Act.put, List.setIfInBounds_toArray, List.set]
     refine wpAnyL_ready (rs := [5]) (by kernel_rfl) (by simp) ?_
     refine AllReadyL.cons (o := _) (by (simp only [List.getElem?_toArray]; rfl)) (fun K hK => ?_) AllReadyL.nil
     refine step_append_elm (by rfl) (.tmp 63) (.tmp 64) (by rfl) (sy.length + sy3.length) elmMg (by rfl) (by rfl) RT.out (fun z hz => mg_one (S3.out.out.2 z hz)) SB.out (by rfl) (by rfl) (by rfl) (by simp only [maxLen]; omega) (by omega) (Nat.le_trans hBW hS.2) ?_
     intro a5 c5 V3_3 q_
     have hrb_ : ∀ g, rowBlk _ _ = some g → V3.heap.size ≤ g := fun g hg => (RT.out.blk hg).1
     have kB_ : Below V3.heap.size V3_2 V3_3 := q_.below (Nat.le_trans hBW hS.2) hrb_
     replace hS := KE.bel hS kB_
     replace x := carryB kB_ (by omega) x
     replace y := carryB kB_ (by omega) y
     replace z := carryB kB_ (by omega) z
     replace p := carryB kB_ (by omega) p
     replace KW := Lib.hid (KW.out.trans (kB_.mono (by omega)))
     have RT2 := Lib.hid (q_.row)
     have R3 := Lib.hid (R3.out.appendedX q_)
     have S := Lib.hid (S.out.appendedX q_)
     have S3 := Lib.hid (S3.out.appendedX q_)
     clear q_ hrb_ kB_
     refine hK.out _ _ (fun _ => hS) ?_
     clear hK K
     try simp only [Act.put, List.setIfInBounds_toArray, List.set]
     refine wpAnyL_ready (rs := [6]) (by kernel_rfl) (by simp) ?_
     refine AllReadyL.cons (o := _) (by (simp only [List.getElem?_toArray]; rfl)) (fun K hK => ?_) AllReadyL.nil
     have cq_ := cell_of_block z
     have fq_ := unfrozen_of_block z
     have lq_ := lt_of_block z
     go_simp
     obtain ⟨V3_4, hV_, sV_, zV_, oV_, kV_⟩ := stored7 V3_3 (w.heap.size + 1 + 1) _ _ _ _ _ _ _ (.int .i64 r3.me) (.int .i64 r3.view) (.bool r3.live) (.int .i64 r3.nx) (.slice r3.ta r3.tk.length r3.tc) (.slice r3.ha r3.hd.length r3.hc) (.slice r3.da r3.dn.length r3.dc) z
     rw [← hV_]
     clear hV_ cq_ fq_ lq_
     replace R3 := Lib.hid (R3.out.stored sV_ oV_ (.inl (hin _ (by omega) (by omega))))
     replace S := Lib.hid (S.out.stored sV_ oV_ (.inl (hin _ (by omega) (by omega))))
     replace S3 := Lib.hid (S3.out.stored sV_ oV_ (.inl (hin _ (by omega) (by omega))))
     replace RT2 := Lib.hid (RT2.out.later sV_ oV_ (by omega))
     replace x := (oV_ _ (by omega)).trans x
     replace y := (oV_ _ (by omega)).trans y
     replace p := (oV_ _ (by omega)).trans p
     replace z := zV_
     replace KW := Lib.hid (KW.out.trans (kV_.mono (by omega)))
     replace hS := KE.store hS sV_ oV_
     clear kV_ oV_ sV_ zV_
     refine hK.out _ _ (fun _ => hS) ?_
     clear hK K
     try simp only [Act.put, List.setIfInBounds_toArray, List.set]
     refine wpAnyL_take (i := 7) (oi := _) (v := ?_) (by (simp only [List.getElem?_toArray]; rfl)) (by kernel_rfl) (by kernel_rfl) (by kernel_rfl) (by kernel_rfl) (by exact fun _ _ _ h => h) (Or.inl ⟨by rfl, ?_⟩) (by assumption) ?_
     rotate_left
     ·
      intro wS hSw
      go_simp
      all_goals first | with_reducible rfl | rw [if_neg (by omega)]
     simp only [Act.put, List.setIfInBounds_toArray, List.set]
     refine wpAnyL_done (by kernel_rfl) ?_ _
     clear cx fx lx cy fy ly cz fz lz cp fp lp
     clear hS x y p
     have cz := cell_of_block z
     have fz := unfrozen_of_block z
     have lz := lt_of_block z
     go_wp2_with fail
     refine bodyPost_ret (v := .tuple #[.agg #[.int .i64 r3.me, .int .i64 r3.view, .bool r3.live, .int .i64 r3.nx, .slice r3.ta r3.tk.length r3.tc, .slice r3.ha r3.hd.length r3.hc, .slice r3.da r3.dn.length r3.dc], .slice a5 (sy.length + sy3.length) c5]) (by simp [results, Try.results85, go_sem, cz]) rfl ?_
     refine ⟨r3, a5, c5, sy ++ sy3, by first | rfl | simp, R3.out.weak (fun b hb => .inl (hsub b hb)), F3.out, ?_, fit_append MF.out MF3.out, by simp; omega, KW.out⟩
     refine fun V' hV' => ⟨Rob.ofLo (B := V3.heap.size) (F := fun V' => IsSl V' (.slice a5 (sy ++ sy3).length c5) 11 Mg.cs (sy ++ sy3)) (RT2.out.rob eleven_len) (fun b hb => Nat.lt_of_lt_of_le (hlt b (hsub b hb)) hs) V' hV', fun m' hm' => (List.mem_append.1 hm').elim (fun h' => (S.out.weak (fun b hb => .inl (hsub b hb)) V' hV').2 m' h') (fun h' => (S3.out.weak (fun b hb => .inl (hsub b hb)) V' hV').2 m' h')⟩
    | false =>
     have S := Lib.hid (show Rob X1 (fun V => IsMs V (.slice (some ⟨W.heap.size, 0, none⟩) 0 0) []) Y from fun V _ => SE.out V)
     have MF := Lib.hid (show MsFit [] from fun z hz => nomatch hz)
     replace F := Lib.hid (F.out.more (by omega : _ ≤ T + 5) (Nat.le_refl D))
     have cx := cell_of_block x
     have fx := unfrozen_of_block x
     have lx := lt_of_block x
     have cy := cell_of_block y
     have fy := unfrozen_of_block y
     have ly := lt_of_block y
     have cz := cell_of_block z
     have fz := unfrozen_of_block z
     have lz := lt_of_block z
     go_wp2_with fail
     refine (l5Go_c X1 (T + 5) D r Y R.out F.out (fun b hb => Nat.lt_of_lt_of_le (hlt b hb) hs) (by omega) (by omega)).mono ?_
     rintro e V2 ⟨r3, a3, c3, sy3, rfl, hr3, hf3, hsy3, hmf3, hln3, k2_⟩
     clear cx fx lx cy fy ly cz fz lz
     clear R F
     have R3 := Lib.hid hr3
     have F3 := Lib.hid hf3
     have S3 := Lib.hid hsy3
     have MF3 := Lib.hid hmf3
     clear hr3 hf3 hsy3 hmf3
     have lx_ := lt_of_block x
     have ly_ := lt_of_block y
     have lz_ := lt_of_block z
     replace x := carryB k2_ lx_ x
     replace y := carryB k2_ ly_ y
     replace z := carryB k2_ lz_ z
     replace S := Lib.hid (S.out.below k2_)
     replace K := below_next K k2_
     replace hs := Nat.le_trans hs k2_.size
     clear k2_ lx_ ly_ lz_
     have cx := cell_of_block x
     have fx := unfrozen_of_block x
     have lx := lt_of_block x
     have cy := cell_of_block y
     have fy := unfrozen_of_block y
     have ly := lt_of_block y
     have cz := cell_of_block z
     have fz := unfrozen_of_block z
     have lz := lt_of_block z
     go_upto_region 14 with fail
     have hne_ : ¬ (V2.heap.size = w.heap.size + 1 + 1) := by omega
     obtain ⟨V3, hV_, sV3, p, k1_⟩ := blocks1 V2 (.cells #[.int .i64 r3.me, .int .i64 r3.view, .bool r3.live, .int .i64 r3.nx, .slice r3.ta r3.tk.length r3.tc, .slice r3.ha r3.hd.length r3.hc, .slice r3.da r3.dn.length r3.dc] 78)
     rw [← hV_]
     clear hV_
     clear cx fx lx cy fy ly cz fz lz
     have lx_ := lt_of_block x
     have ly_ := lt_of_block y
     have lz_ := lt_of_block z
     replace x := carryB k1_ lx_ x
     replace y := carryB k1_ ly_ y
     replace z := carryB k1_ lz_ z
     replace S := Lib.hid (S.out.below k1_)
     replace R3 := Lib.hid (R3.out.below k1_)
     replace S3 := Lib.hid (S3.out.below k1_)
     replace K := below_next K k1_
     replace hs := Nat.le_trans hs k1_.size
     clear k1_ lx_ ly_ lz_
     have KW := Lib.hid K
     have SA := Lib.hid (S.out.out.1.bounds.2.2.2)
     have SB := Lib.hid (S3.out.out.1.bounds.2.2.2)
     clear sV3
     have hBW := Nat.le_refl V3.heap.size
     have cx := cell_of_block x
     have fx := unfrozen_of_block x
     have lx := lt_of_block x
     have cy := cell_of_block y
     have fy := unfrozen_of_block y
     have ly := lt_of_block y
     have cz := cell_of_block z
     have fz := unfrozen_of_block z
     have lz := lt_of_block z
     have cp := cell_of_block p
     have fp := unfrozen_of_block p
     have lp := lt_of_block p
     refine wp_region_L (fun w' => (∀ b o, b < V3.heap.size → b ≠ w.heap.size + 1 + 1 → w'.cell? ⟨b, o, none⟩ = V3.cell? ⟨b, o, none⟩) ∧ V3.heap.size ≤ w'.heap.size) [] (by kernel_rfl) ?_
     obtain ⟨V3_0, hw_, kw_⟩ : ∃ wd, wd = V3.drew ∧ Below V3.heap.size V3 wd := ⟨_, rfl, Below.drew (Below.refl _ _)⟩
     rw [← hw_]
     clear hw_
     have hS := KE.next hBW (KE.refl V3.heap.size (w.heap.size + 1 + 1) V3) kw_
     replace x := carryB kw_ (lt_of_block x) x
     replace y := carryB kw_ (lt_of_block y) y
     replace z := carryB kw_ (lt_of_block z) z
     replace p := carryB kw_ (lt_of_block p) p
     replace KW := Lib.hid (below_next KW.out kw_)
     replace S := Lib.hid (S.out.below kw_)
     replace R3 := Lib.hid (R3.out.below kw_)
     replace S3 := Lib.hid (S3.out.below kw_)
     replace SA := Lib.hid (SA.out.below kw_)
     replace SB := Lib.hid (SB.out.below kw_)
     clear kw_
     refine wpAnyL_take (i := 0) (oi := _) (v := ?_) (by (simp only [List.getElem?_toArray]; rfl)) (by kernel_rfl) (by kernel_rfl) (by kernel_rfl) (by kernel_rfl) (by exact fun _ _ _ h => h) (Or.inl ⟨by rfl, ?_⟩) (by assumption) ?_
     rotate_left
     ·
      intro wS hSw
      go_simp
      all_goals first | with_reducible rfl | rw [if_neg (by omega)]
     simp only [Act.put, List.setIfInBounds_toArray, List.set]
     refine wpAnyL_take (i := 2) (oi := _) (v := ?_) (by (simp only [List.getElem?_toArray]; rfl)) (by kernel_rfl) (by kernel_rfl) (by kernel_rfl) (by kernel_rfl) (by exact fun _ _ _ h => h) (Or.inl ⟨by rfl, ?_⟩) (by assumption) ?_
     rotate_left
     ·
      intro wS hSw
      go_simp
      all_goals first | with_reducible rfl | rw [if_neg (by omega)]
     simp only [Act.put, List.setIfInBounds_toArray, List.set]
     refine wpAnyL_take (i := 4) (oi := _) (v := ?_) (by (simp only [List.getElem?_toArray]; rfl)) (by kernel_rfl) (by kernel_rfl) (by kernel_rfl) (by kernel_rfl) (by exact fun _ _ _ h => h) (Or.inl ⟨by rfl, ?_⟩) (by assumption) ?_
     rotate_left
     ·
      intro wS hSw
      go_simp
      all_goals first | with_reducible rfl | rw [if_neg (by omega)]
     simp only [Act.put, List.setIfInBounds_toArray, List.set]
     refine wpAnyL_ready (rs := [1]) (by kernel_rfl) (by simp) ?_
     refine AllReadyL.cons (o := _) (by (simp only [List.getElem?_toArray]; rfl)) (fun K hK => ?_) AllReadyL.nil
     refine step_build0M (by rfl) (by rfl) elmMg ?_
     obtain ⟨V3_1, hw_, kw_⟩ : ∃ V, V = V3_0.alloc (.cells #[] 34) ∧ Below V3_0.heap.size V3_0 V := ⟨_, rfl, (Below.refl _ _).alloc (Nat.le_refl _) _⟩
     rw [← hw_]
     clear hw_
     replace hS := KE.next hBW hS kw_
     replace x := carryB kw_ (lt_of_block x) x
     replace y := carryB kw_ (lt_of_block y) y
     replace z := carryB kw_ (lt_of_block z) z
     replace p := carryB kw_ (lt_of_block p) p
     replace KW := Lib.hid (below_next KW.out kw_)
     replace S := Lib.hid (S.out.below kw_)
     replace R3 := Lib.hid (R3.out.below kw_)
     replace S3 := Lib.hid (S3.out.below kw_)
     replace SA := Lib.hid (SA.out.below kw_)
     replace SB := Lib.hid (SB.out.below kw_)
     clear kw_
     refine hK.out _ _ (fun _ => hS) ?_
     clear hK K
     try simp only [Act.put, List.setIfInBounds_toArray, List.set]
     refine wpAnyL_ready (rs := [3]) (by kernel_rfl) (by simp) ?_
     refine AllReadyL.cons (o := _) (by (simp only [List.getElem?_toArray]; rfl)) (fun K hK => ?_) AllReadyL.nil
     refine step_append_newM V3_1.heap.size (by rfl) (.tmp 61) (.tmp 62) (by rfl) elmMg (by rfl) (by rfl) (fun z hz => mg_one (S.out.out.2 z hz)) (SA.out) (by rfl) (by simp only [maxLen]; omega) (by omega) (Nat.le_refl _) ?_
     intro a4 c4 V3_2 q_
     have hq_ : V3.heap.size ≤ V3_1.heap.size := Nat.le_trans hBW hS.2
     have kw_ := q_.below
     replace S := Lib.hid (S.out.newrowX q_)
     replace R3 := Lib.hid (R3.out.newrowX q_)
     replace S3 := Lib.hid (S3.out.newrowX q_)
     replace hS := KE.next hBW hS kw_
     replace x := carryB kw_ (lt_of_block x) x
     replace y := carryB kw_ (lt_of_block y) y
     replace z := carryB kw_ (lt_of_block z) z
     replace p := carryB kw_ (lt_of_block p) p
     replace KW := Lib.hid (below_next KW.out kw_)
     replace SA := Lib.hid (SA.out.below kw_)
     replace SB := Lib.hid (SB.out.below kw_)
     clear kw_
     have RT := Lib.hid (q_.row.low hq_)
     clear q_ hq_
     refine hK.out _ _ (fun _ => hS) ?_
     clear hK K
     try simp only [Act.put, List.setIfInBounds_toArray, List.set]
     refine wpAnyL_ready (rs := [5]) (by kernel_rfl) (by simp) ?_
     refine AllReadyL.cons (o := _) (by (simp only [List.getElem?_toArray]; rfl)) (fun K hK => ?_) AllReadyL.nil
     refine step_append_elm (by rfl) (.tmp 63) (.tmp 64) (by rfl) (0 + sy3.length) elmMg (by rfl) (by rfl) RT.out (fun z hz => mg_one (S3.out.out.2 z hz)) SB.out (by rfl) (by rfl) (by rfl) (by simp only [maxLen]; omega) (by omega) (Nat.le_trans hBW hS.2) ?_
     intro a5 c5 V3_3 q_
     have hrb_ : ∀ g, rowBlk _ _ = some g → V3.heap.size ≤ g := fun g hg => (RT.out.blk hg).1
     have kB_ : Below V3.heap.size V3_2 V3_3 := q_.below (Nat.le_trans hBW hS.2) hrb_
     replace hS := KE.bel hS kB_
     replace x := carryB kB_ (by omega) x
     replace y := carryB kB_ (by omega) y
     replace z := carryB kB_ (by omega) z
     replace p := carryB kB_ (by omega) p
     replace KW := Lib.hid (KW.out.trans (kB_.mono (by omega)))
     have RT2 := Lib.hid (q_.row)
     have R3 := Lib.hid (R3.out.appendedX q_)
     have S := Lib.hid (S.out.appendedX q_)
     have S3 := Lib.hid (S3.out.appendedX q_)
     clear q_ hrb_ kB_
     refine hK.out _ _ (fun _ => hS) ?_
     clear hK K
     try simp only [Act.put, List.setIfInBounds_toArray, List.set]
     refine wpAnyL_ready (rs := [6]) (by kernel_rfl) (by simp) ?_
     refine AllReadyL.cons (o := _) (by (simp only [List.getElem?_toArray]; rfl)) (fun K hK => ?_) AllReadyL.nil
     have cq_ := cell_of_block z
     have fq_ := unfrozen_of_block z
     have lq_ := lt_of_block z
     go_simp
     obtain ⟨V3_4, hV_, sV_, zV_, oV_, kV_⟩ := stored7 V3_3 (w.heap.size + 1 + 1) _ _ _ _ _ _ _ (.int .i64 r3.me) (.int .i64 r3.view) (.bool r3.live) (.int .i64 r3.nx) (.slice r3.ta r3.tk.length r3.tc) (.slice r3.ha r3.hd.length r3.hc) (.slice r3.da r3.dn.length r3.dc) z
     rw [← hV_]
     clear hV_ cq_ fq_ lq_
     replace R3 := Lib.hid (R3.out.stored sV_ oV_ (.inl (hin _ (by omega) (by omega))))
     replace S := Lib.hid (S.out.stored sV_ oV_ (.inl (hin _ (by omega) (by omega))))
     replace S3 := Lib.hid (S3.out.stored sV_ oV_ (.inl (hin _ (by omega) (by omega))))
     replace RT2 := Lib.hid (RT2.out.later sV_ oV_ (by omega))
     replace x := (oV_ _ (by omega)).trans x
     replace y := (oV_ _ (by omega)).trans y
     replace p := (oV_ _ (by omega)).trans p
     replace z := zV_
     replace KW := Lib.hid (KW.out.trans (kV_.mono (by omega)))
     replace hS := KE.store hS sV_ oV_
     clear kV_ oV_ sV_ zV_
     refine hK.out _ _ (fun _ => hS) ?_
     clear hK K
     try simp only [Act.put, List.setIfInBounds_toArray, List.set]
     refine wpAnyL_take (i := 7) (oi := _) (v := ?_) (by (simp only [List.getElem?_toArray]; rfl)) (by kernel_rfl) (by kernel_rfl) (by kernel_rfl) (by kernel_rfl) (by exact fun _ _ _ h => h) (Or.inl ⟨by rfl, ?_⟩) (by assumption) ?_
     rotate_left
     ·
      intro wS hSw
      go_simp
      all_goals first | with_reducible rfl | rw [if_neg (by omega)]
     simp only [Act.put, List.setIfInBounds_toArray, List.set]
     refine wpAnyL_done (by kernel_rfl) ?_ _
     clear cx fx lx cy fy ly cz fz lz cp fp lp
     clear hS x y p
     have cz := cell_of_block z
     have fz := unfrozen_of_block z
     have lz := lt_of_block z
     go_wp2_with fail
     refine bodyPost_ret (v := .tuple #[.agg #[.int .i64 r3.me, .int .i64 r3.view, .bool r3.live, .int .i64 r3.nx, .slice r3.ta r3.tk.length r3.tc, .slice r3.ha r3.hd.length r3.hc, .slice r3.da r3.dn.length r3.dc], .slice a5 (0 + sy3.length) c5]) (by simp [results, Try.results85, go_sem, cz]) rfl ?_
     refine ⟨r3, a5, c5, ([] : List Mg) ++ sy3, by first | rfl | simp, R3.out.weak (fun b hb => .inl (hsub b hb)), F3.out, ?_, fit_append MF.out MF3.out, by simp; omega, KW.out⟩
     refine fun V' hV' => ⟨Rob.ofLo (B := V3.heap.size) (F := fun V' => IsSl V' (.slice a5 (([] : List Mg) ++ sy3).length c5) 11 Mg.cs (([] : List Mg) ++ sy3)) (RT2.out.rob eleven_len) (fun b hb => Nat.lt_of_lt_of_le (hlt b (hsub b hb)) hs) V' hV', fun m' hm' => (List.mem_append.1 hm').elim (fun h' => (S.out.weak (fun b hb => .inl (hsub b hb)) V' hV').2 m' h') (fun h' => (S3.out.weak (fun b hb => .inl (hsub b hb)) V' hV').2 m' h')⟩
end Go.Proofs.Ytgdhieffjflejaa
