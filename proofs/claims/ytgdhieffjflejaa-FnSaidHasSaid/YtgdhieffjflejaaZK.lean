/- What was ready at a keeper (l5Claims): at most five claims, of places of at most 5; condition: none. | A keeper that turns to the next view (l5Turns); condition: small sizes. -/
import Derived.Test.YtgdhieffjflejaaK9
import Derived.Test.YtgdhieffjflejaaK12
import Derived.Test.YtgdhieffjflejaaAux6
set_option linter.unusedSimpArgs false
set_option linter.unusedVariables false
/-! K14 -/
namespace Go.Proofs.Ytgdhieffjflejaa
open Go.RowKit Go.Joins

/-- At most five claims, of places of at most 5, in a list of their own. -/
def ClaimsGot (w : World) (e : Ending) (w' : World) : Prop :=
 ∃ (a : Option Addr) (c : Nat) (cl : List Cl), e = .returned (.slice a cl.length c) ∧ cl.length ≤ 5 ∧ (∀ z ∈ cl, z.s ≤ 5) ∧ Row w' w.heap.size 62 a c 7 Cl.cs cl ∧ Below w.heap.size w w'

set_option maxRecDepth 100000 in
set_option maxHeartbeats 16000000 in
theorem l5Claims_c (r : Rk) (w : World) (h : r.ok w) :
  Calls Try.prog 99 #[.agg #[.int .i64 r.me, .int .i64 r.view, .bool r.live, .int .i64 r.nx, .slice r.ta r.tk.length r.tc, .slice r.ha r.hd.length r.hc, .slice r.da r.dn.length r.dc]] w (ClaimsGot w) := by
 have HOK := Lib.hid (fun (V : World) (k : Below w.heap.size w V) => (show r.ok V from ⟨h.1.below k, h.2.1.below k, h.2.2.below k⟩))
 obtain ⟨-, hlc, hmx, hrt⟩ := h.1.bounds
 have HT := Lib.hid hrt
 unfold maxLen at hmx
 clear h hrt
 go_enter Try.func99, Try.ntmps99
 go_upto_region 2 with fail
 obtain ⟨W, hW_, sW, x, nW, kW⟩ := blocks2 w (.cells #[.int .i64 r.me, .int .i64 r.view, .bool r.live, .int .i64 r.nx, .slice r.ta r.tk.length r.tc, .slice r.ha r.hd.length r.hc, .slice r.da r.dn.length r.dc] 78) (.cells #[] 62)
 rw [← hW_]
 clear hW_ nW
 have hs0 : w.heap.size + 2 ≤ W.heap.size := by omega
 clear sW
 go_wp2_with fail
 go_loopw [3, 4] (fun st i wr => ∃ (k : Nat) (a : Option Addr) (cc : Nat) (cl : List Cl), k ≤ 5 ∧ i = .int .i64 ((k : Int) + 1) ∧ st = .slice a cl.length cc ∧ cl.length ≤ k ∧ (∀ z ∈ cl, z.s ≤ 5) ∧ Row wr (w.heap.size + 1) 62 a cc 7 Cl.cs cl ∧ wr.heap[w.heap.size]? = some (.cells #[.int .i64 r.me, .int .i64 r.view, .bool r.live, .int .i64 r.nx, .slice r.ta r.tk.length r.tc, .slice r.ha r.hd.length r.hc, .slice r.da r.dn.length r.dc] 78 (0, 0)) ∧ w.heap.size + 2 ≤ wr.heap.size ∧ Below w.heap.size w wr) (fun _ i _ => 6 - (intOf i).toNat)
 case atStart => exact ⟨0, some ⟨w.heap.size + 1, 0, none⟩, 0, [], by omega, rfl, rfl, Nat.zero_le _, (fun z hz => nomatch hz), Row.nil _ _ _ _ _ _, x, hs0, kW⟩
 case round =>
  clear x kW hs0
  obtain ⟨k, a, cc, cl, hk, rfl, rfl, hcl, hsm, hrow, x, hs, K⟩ := hrel
  have RW := Lib.hid hrow
  have SM := Lib.hid hsm
  clear hrow hsm
  have hk0 : (0 : Int) ≤ (k : Int) := by omega
  by_cases hk5 : k < 5
  ·
   have hk1 : (k : Int) + 1 ≤ 5 := by omega
   have hrb : ∀ g', rowBlk a cc = some g' → w.heap.size + 1 ≤ g' ∧ g' < wr.heap.size := fun g' hg' => RW.out.blk hg'
   go_upto_region 6 with fail
   obtain ⟨V, hV_, sV, v, kV⟩ := blocks1 wr (.cells #[.int .i64 0, .int .i64 (-1), .int .i64 0, .int .i64 0, .int .i64 0, .int .i64 0, .int .i64 0] 62)
   rw [← hV_]
   clear hV_
   replace x := carryB kV (lt_of_block x) x
   replace RW := Lib.hid (RW.out.below kV)
   replace K := below_next K kV
   have hGV : wr.heap.size < V.heap.size := by omega
   have hsG : w.heap.size + 2 ≤ wr.heap.size := hs
   clear kV sV hs
   generalize wr.heap.size = G at *
   go_wp2_with fail
   go_loopw [6] (fun i wr => ∃ (j : Nat) (b : Cl), j ≤ r.tk.length ∧ i = .int .i64 j ∧ b.s ≤ 5 ∧ wr.heap[G]? = some (.cells #[.int .i64 b.s, .int .i64 b.v, .int .i64 b.r.c, .int .i64 b.r.n, .int .i64 b.r.o, .int .i64 b.r.x, .int .i64 b.r.y] 62 (0, 0)) ∧ Row wr (w.heap.size + 1) 62 a cc 7 Cl.cs cl ∧ wr.heap[w.heap.size]? = some (.cells #[.int .i64 r.me, .int .i64 r.view, .bool r.live, .int .i64 r.nx, .slice r.ta r.tk.length r.tc, .slice r.ha r.hd.length r.hc, .slice r.da r.dn.length r.dc] 78 (0, 0)) ∧ G < wr.heap.size ∧ Below w.heap.size w wr) (fun i _ => r.tk.length - (intOf i).toNat)
   case atStart => exact ⟨0, ⟨0, -1, ⟨0, 0, 0, 0, 0⟩⟩, Nat.zero_le _, rfl, by show (0 : Int) ≤ 5; omega, v, RW.out, x, hGV, K⟩
   case round =>
    clear x v K RW hGV
    obtain ⟨j, b, hj, rfl, hb5, v, hrow, x, hGV, K⟩ := hrel
    have RW := Lib.hid hrow
    clear hrow
    by_cases hlt2 : j < r.tk.length
    ·
     have hj1 : (j : Int) < (r.tk.length : Int) := by omega
     have hj0 : (0 : Int) ≤ (j : Int) := by omega
     obtain ⟨b1, o1, ea, hl1, hd0⟩ := seven_at HT.out j hlt2
     obtain ⟨d0, d1, d2, d3, d4, d5, d6⟩ := hd0 wr K
     clear hd0
     generalize r.tk[j] = c at *
     have EA := Lib.hid ea
     rw [ea] at x
     clear ea
     have cx := cell_of_block x
     have fx := unfrozen_of_block x
     have lx := lt_of_block x
     go_upto_region 10 with fail
     obtain ⟨U, hV_, sU, u, kV⟩ := blocks1 wr (.cells #[.int .i64 c.s, .int .i64 c.v, .int .i64 c.r.c, .int .i64 c.r.n, .int .i64 c.r.o, .int .i64 c.r.x, .int .i64 c.r.y] 62)
     rw [← hV_]
     clear hV_ d0 d1 d2 d3 d4 d5 d6
     clear cx fx lx
     rw [← EA.out] at x
     clear EA hl1
     replace x := carryB kV (lt_of_block x) x
     replace v := carryB kV (lt_of_block v) v
     replace RW := Lib.hid (RW.out.below kV)
     replace K := below_next K kV
     have hGU : G < U.heap.size := Nat.lt_of_lt_of_le hGV kV.size
     have hneu : ¬ (wr.heap.size = G) := by omega
     have hneu2 : ¬ (G = wr.heap.size) := by omega
     clear kV sU
     obtain ⟨q1, hq1⟩ : ∃ q, (c.s == (k : Int) + 1) = q := ⟨_, rfl⟩
     obtain ⟨q2, hq2⟩ : ∃ q, decide (b.v < c.v) = q := ⟨_, rfl⟩
     have cx := cell_of_block x
     have fx := unfrozen_of_block x
     have lx := lt_of_block x
     have cv := cell_of_block v
     have fv := unfrozen_of_block v
     have lv := lt_of_block v
     have cu := cell_of_block u
     have fu := unfrozen_of_block u
     have lu := lt_of_block u
     cases q1 with
     | false =>
      go_wp2_with fail
      clear cx fx lx cv fv lv cu fu lu
      go_roundw
      case rel => exact ⟨j + 1, b, by omega, by go_num, hb5, v, RW.out, x, hGU, K⟩
      case measure => simp [intOf]; omega
     | true =>
      have hcs5 : c.s ≤ 5 := by have := of_decide_eq_true hq1; omega
      cases q2 with
      | false =>
       go_wp2_with fail
       clear cx fx lx cv fv lv cu fu lu
       go_roundw
       case rel => exact ⟨j + 1, b, by omega, by go_num, hb5, v, RW.out, x, hGU, K⟩
       case measure => simp [intOf]; omega
      | true =>
       go_wp2_with fail
       refine (l5Is_w r c U (HOK.out U K)).mono ?_
       rintro e U1 ⟨q3, rfl, k1_⟩
       clear cx fx lx cv fv lv cu fu lu
       have lu_ := lt_of_block u
       have lv_ := lt_of_block v
       replace x := carryB k1_ (lt_of_block x) x
       replace v := carryB k1_ lv_ v
       replace u := carryB k1_ lu_ u
       replace RW := Lib.hid (RW.out.below k1_)
       replace K := below_next K k1_
       have hGU1 : G < U1.heap.size := Nat.lt_of_lt_of_le hGU k1_.size
       clear k1_ lu_ lv_
       have cx := cell_of_block x
       have fx := unfrozen_of_block x
       have lx := lt_of_block x
       have cv := cell_of_block v
       have fv := unfrozen_of_block v
       have lv := lt_of_block v
       have cu := cell_of_block u
       have fu := unfrozen_of_block u
       have lu := lt_of_block u
       cases q3 with
       | false =>
        go_wp2_with fail
        clear cx fx lx cv fv lv cu fu lu
        go_roundw
        case rel => exact ⟨j + 1, b, by omega, by go_num, hb5, v, RW.out, x, hGU1, K⟩
        case measure => simp [intOf]; omega
       | true =>
        go_upto_region 8 with fail
        obtain ⟨U2, hV_, sV, xV, oV, kV⟩ := stored7 U1 G _ _ _ _ _ _ _ (.int .i64 c.s) (.int .i64 c.v) (.int .i64 c.r.c) (.int .i64 c.r.n) (.int .i64 c.r.o) (.int .i64 c.r.x) (.int .i64 c.r.y) v
        rw [← hV_]
        clear hV_
        clear cx fx lx cv fv lv cu fu lu
        replace v := xV
        replace x := (oV _ (by omega)).trans x
        replace RW := Lib.hid (RW.out.agree (X := fun b => b = G) ⟨by omega, fun b _ hb => oV b hb⟩ (fun g' hg' e => by have := (hrb g' hg').2; omega))
        replace K := K.trans (kV.mono (by omega))
        have hGU2 : G < U2.heap.size := by omega
        have X_ := Lib.hid x
        have V_ := Lib.hid v
        have K_ := Lib.hid K
        clear xV oV kV sV u x v K hq1 hq2
        go_wp2_with fail
        go_roundw
        case rel => exact ⟨j + 1, c, by omega, by go_num, hcs5, V_.out, RW.out, X_.out, hGU2, K_.out⟩
        case measure => simp [intOf]; omega
    ·
     have hjf : ¬ ((j : Int) < (r.tk.length : Int)) := by omega
     obtain ⟨q1, hq1⟩ : ∃ q, decide ((0 : Int) ≤ b.v) = q := ⟨_, rfl⟩
     have cx := cell_of_block x
     have fx := unfrozen_of_block x
     have lx := lt_of_block x
     have cv := cell_of_block v
     have fv := unfrozen_of_block v
     have lv := lt_of_block v
     cases q1 with
     | false =>
      go_wp2_with fail
      clear cx fx lx cv fv lv
      go_roundw
      case rel => exact ⟨k + 1, a, cc, cl, by omega, by go_num, rfl, by omega, SM.out, RW.out, x, by omega, K⟩
      case measure => simp [intOf]; omega
     | true =>
      have hcl5 : cl.length ≤ 5 := by omega
      have hsw : w.heap.size + 2 ≤ wr.heap.size := by omega
      go_wp2_with (at_builtin; refine wpList_append_rowM rfl _ _ rfl (cl.length + 1) elmCl rfl rfl (RW.out.below ((Below.refl wr.heap.size wr).alloc (Nat.le_refl _) _)) (ys := [b]) (fun z _ => cl_one z) (rows_of_block (R := Cl.cs) (zs := [b]) (fun _ => rfl) (heap_alloc_new wr _)) rfl rfl rfl (by simp only [maxLen]; omega) (by omega) (by simp; omega) ?_)
      intro a3 c3 U3 q3
      have kA : Below wr.heap.size wr (wr.alloc (.cells #[.int .i64 b.s, .int .i64 b.v, .int .i64 b.r.c, .int .i64 b.r.n, .int .i64 b.r.o, .int .i64 b.r.x, .int .i64 b.r.y] 62)) := (Below.refl wr.heap.size wr).alloc (Nat.le_refl _) _
      have k3 : Below (w.heap.size + 1) wr U3 := (kA.mono (by omega)).trans (q3.below (by simp; omega) (fun g' hg' => (hrb g' hg').1))
      clear cx fx lx cv fv lv
      replace x := carryB k3 (by omega) x
      replace K := K.trans (k3.mono (by omega))
      have hs3 : w.heap.size + 2 ≤ U3.heap.size := Nat.le_trans hsw k3.size
      have RW2 := Lib.hid q3.row
      have SM2 := Lib.hid (show ∀ z ∈ cl ++ [b], z.s ≤ 5 from fun z hz => (List.mem_append.1 hz).elim (SM.out z) (fun h => by rw [List.mem_singleton.1 h]; exact hb5))
      have X_ := Lib.hid x
      have K_ := Lib.hid K
      clear q3 kA k3 RW SM v x K hq1
      go_wp2_with fail
      go_roundw
      case rel => exact ⟨k + 1, a3, c3, cl ++ [b], by omega, by go_num, by simp, by simp; omega, SM2.out, RW2.out, X_.out, hs3, K_.out⟩
      case measure => simp [intOf]; omega
  ·
   have hk1 : ¬ ((k : Int) + 1 ≤ 5) := by omega
   go_wp2_with fail
   go_ret
   exact ⟨a, cc, cl, rfl, by omega, SM.out, RW.out.low (by omega), K⟩
end Go.Proofs.Ytgdhieffjflejaa

/-! K15 -/
namespace Go.Proofs.Ytgdhieffjflejaa
open Go.RowKit Go.Joins

set_option maxRecDepth 100000 in
set_option maxHeartbeats 16000000 in
theorem l5Turns_c (X : Nat → Prop) (T D : Nat) (r : Rk) (vb : Value) (ms : List Mg) (w : World) (h : Rob X r.ok w) (hf : r.fit T D) (hms : IsMs w vb ms) (hmsf : MsFit ms) (hml : ms.length ≤ 1000) (hX : ∀ b, X b → b < w.heap.size) (hT : T ≤ 900000) :
  Calls Try.prog 87 #[.agg #[.int .i64 r.me, .int .i64 r.view, .bool r.live, .int .i64 r.nx, .slice r.ta r.tk.length r.tc, .slice r.ha r.hd.length r.hc, .slice r.da r.dn.length r.dc], vb] w (KeepSays X (T + 5) D 7 w) := by
 have HO := Lib.hid h
 have HF := Lib.hid hf
 have hms2 := hms
 obtain ⟨⟨as_, cs_, rfl, -⟩, -⟩ := hms2
 have HMSX := Lib.hid (fun (V : World) (k : Below w.heap.size w V) => hms.below k)
 have HMSF := Lib.hid hmsf
 have HT := Lib.hid hms.1.bounds.2.2.2
 clear h hf hmsf hms
 go_enter Try.func87, Try.ntmps87
 go_upto_region 1 with fail
 obtain ⟨W, hW_, sW, x, z, kW⟩ := blocks2 w (.cells #[.int .i64 r.me, .int .i64 r.view, .bool r.live, .int .i64 r.nx, .slice r.ta r.tk.length r.tc, .slice r.ha r.hd.length r.hc, .slice r.da r.dn.length r.dc] 78) (.cells #[.int .i64 0, .int .i64 0, .bool false, .int .i64 0, .slice none 0 0, .slice none 0 0, .slice none 0 0] 78)
 rw [← hW_]
 clear hW_
 have hsW : w.heap.size + 2 ≤ W.heap.size := by omega
 obtain ⟨X1, hlt, hin, hsub, hbx⟩ : ∃ X1 : Nat → Prop, (∀ b, X1 b → b < W.heap.size) ∧ (∀ b, w.heap.size ≤ b → b < W.heap.size → X1 b) ∧ (∀ b, X b → X1 b) ∧ ∀ (F : World → Prop) (V : World), Below w.heap.size w V → Rob X F w → Rob X1 F V :=
  ⟨Bx X w.heap.size W.heap.size, Bx.lt hX (by omega), fun b h1 h2 => .inr ⟨h1, h2⟩, fun b hb => .inl hb, fun F V hV hF => hF.box hV _⟩
 clear sW
 have cx := cell_of_block x
 have fx := unfrozen_of_block x
 have lx := lt_of_block x
 go_upto_region 2 with fail
 obtain ⟨nv, hnv⟩ : ∃ nv : Int, wrap64 (r.view + 1) = nv := ⟨_, rfl⟩
 simp only [hnv]
 obtain ⟨V, hV_, sV, xV, oV, kV⟩ := stored1 W w.heap.size 1 (.int .i64 nv) x
 rw [← hV_]
 clear hV_ hnv
 clear cx fx lx
 clear x
 replace z := (oV _ (by omega)).trans z
 have K := kW.trans (kV.mono (by omega))
 have hs : W.heap.size ≤ V.heap.size := by omega
 clear oV kV sV kW
 have cxV := cell_of_block xV
 have fxV := unfrozen_of_block xV
 have lxV := lt_of_block xV
 go_upto_region 3 with fail
 obtain ⟨Y, hV_, sV, x1, oV, kV⟩ := stored1 V w.heap.size 2 (.bool false) xV
 rw [← hV_]
 clear hV_
 clear cxV fxV lxV
 clear xV
 replace z := (oV _ (by omega)).trans z
 replace K := K.trans (kV.mono (by omega))
 replace hs : W.heap.size ≤ Y.heap.size := by omega
 clear oV kV sV
 obtain ⟨r0, e0⟩ : ∃ r0 : Rk, r0 = ⟨r.me, nv, false, r.nx, r.ta, r.tc, r.tk, r.ha, r.hc, r.hd, r.da, r.dc, r.dn⟩ := ⟨_, rfl⟩
 have x : Y.heap[w.heap.size]? = some (.cells #[.int .i64 r0.me, .int .i64 r0.view, .bool r0.live, .int .i64 r0.nx, .slice r0.ta r0.tk.length r0.tc, .slice r0.ha r0.hd.length r0.hc, .slice r0.da r0.dn.length r0.dc] 78 (0, 0)) := by
  subst e0
  simpa using x1
 have R0 := Lib.hid (show Rob X1 r0.ok Y by
  subst e0
  exact hbx _ _ K HO.out)
 have F0 := Lib.hid (show r0.fit T D by
  subst e0
  exact ⟨HF.out.me0, HF.out.me3, HF.out.tk, HF.out.hd, HF.out.ms, HF.out.dn⟩)
 clear x1 e0 HO HF hbx
 replace HT := Lib.hid (HT.out.below K)
 go_cut [6] (fun s6 wx => ∃ (g : Nat) (m : Mg) (a1 b1 : Option Addr) (c1 d1 : Nat), s6 = .pointer (some ⟨g, 0, none⟩) ∧ Y.heap.size ≤ g ∧ wx.heap[g]? = some (.cells #[.int .i64 m.k, .int .i64 m.f, .int .i64 m.v, .int .i64 m.s, .int .i64 m.r.c, .int .i64 m.r.n, .int .i64 m.r.o, .int .i64 m.r.x, .int .i64 m.r.y, .slice a1 m.cl.length c1, .slice b1 m.vs.length d1] 34 (0, 0)) ∧ m.vc = .slice a1 m.cl.length c1 ∧ m.vv = .slice b1 m.vs.length d1 ∧ m.fit ∧ Rob X1 m.ok wx ∧ Below Y.heap.size Y wx)
 case first =>
  have hBW := Nat.le_refl Y.heap.size
  have cx := cell_of_block x
  have fx := unfrozen_of_block x
  have lx := lt_of_block x
  refine wp_region_L (fun w' => ((∀ b o, b < Y.heap.size → (w').cell? ⟨b, o, none⟩ = (Y).cell? ⟨b, o, none⟩) ∧ Below (Y.heap.size) (Y) (w'))) [] (by kernel_rfl) ?_
  obtain ⟨Y_0, hw_, kw_⟩ : ∃ wd, wd = Y.drew ∧ Below Y.heap.size Y wd := ⟨_, rfl, Below.drew (Below.refl _ _)⟩
  rw [← hw_]
  clear hw_
  have hS := KeptB.of (kw_.mono hBW)
  replace R0 := Lib.hid (R0.out.below kw_)
  clear kw_
  refine wpAnyL_take (i := 0) (oi := _) (v := ?_) (by (simp only [List.getElem?_toArray]; rfl)) (by kernel_rfl) (by kernel_rfl) (by kernel_rfl) (by kernel_rfl) (by exact fun _ _ _ h => h) (Or.inl ⟨by rfl, ?_⟩) (by assumption) ?_
  rotate_left
  ·
   intro wS hSw
   go_simp
   all_goals first | with_reducible rfl | rw [if_neg (by omega)]
  simp only [Act.put, List.setIfInBounds_toArray, List.set]
  refine wpAnyL_take (i := 1) (oi := _) (v := ?_) (by (simp only [List.getElem?_toArray]; rfl)) (by kernel_rfl) (by kernel_rfl) (by kernel_rfl) (by kernel_rfl) (by exact fun _ _ _ h => h) (Or.inl ⟨by rfl, ?_⟩) (by assumption) ?_
  rotate_left
  ·
   intro wS hSw
   go_simp
   all_goals first | with_reducible rfl | rw [if_neg (by omega)]
  simp only [Act.put, List.setIfInBounds_toArray, List.set]
  refine wpAnyL_take (i := 2) (oi := _) (v := ?_) (by (simp only [List.getElem?_toArray]; rfl)) (by kernel_rfl) (by kernel_rfl) (by kernel_rfl) (by kernel_rfl) (by exact fun _ _ _ h => h) (Or.inl ⟨by rfl, ?_⟩) (by assumption) ?_
  rotate_left
  ·
   intro wS hSw
   go_simp
   all_goals first | with_reducible rfl | rw [if_neg (by omega)]
  simp only [Act.put, List.setIfInBounds_toArray, List.set]
  refine wpAnyL_take (i := 3) (oi := _) (v := ?_) (by (simp only [List.getElem?_toArray]; rfl)) (by kernel_rfl) (by kernel_rfl) (by kernel_rfl) (by kernel_rfl) (by exact fun _ _ _ h => h) (Or.inl ⟨by rfl, ?_⟩) (by assumption) ?_
  rotate_left
  ·
   intro wS hSw
   go_simp
   all_goals first | with_reducible rfl | rw [if_neg (by omega)]
  simp only [Act.put, List.setIfInBounds_toArray, List.set]
  refine wpAnyL_take (i := 4) (oi := _) (v := ?_) (by (simp only [List.getElem?_toArray]; rfl)) (by kernel_rfl) (by kernel_rfl) (by kernel_rfl) (by kernel_rfl) (by exact fun _ _ _ h => h) (Or.inl ⟨by rfl, ?_⟩) (by assumption) ?_
  rotate_left
  ·
   intro wS hSw
   go_simp
   all_goals first | with_reducible rfl | rw [if_neg (by omega)]
  simp only [Act.put, List.setIfInBounds_toArray, List.set]
  refine wpAnyL_ready (rs := [5, 7]) (by kernel_rfl) (by simp) ?_
  refine AllReadyL.cons (o := _) (by (simp only [List.getElem?_toArray]; rfl)) (fun K hK => ?_) ?_
  ·
   skip
   have hS0_ : Y.heap.size ≤ Y_0.heap.size := hS.2.size
   go_simp
   refine (l5Claims_c r0 Y_0 R0.out.out).mono ?_
   rintro e Y_1 ⟨a1, c1, cl, rfl, hc5, hsm, hcr, kw_⟩
   have hRK : Below Y.heap.size Y Y_1 := hS.2.trans (kw_.mono (Nat.le_trans hBW hS.2.size))
   clear hS
   have hS := KeptB.of hRK
   clear hRK
   replace R0 := Lib.hid (R0.out.below kw_)
   clear kw_
   have SM := Lib.hid hsm
   have CR := Lib.hid (hcr.robX (X := Bx X1 Y.heap.size Y_0.heap.size) seven_len (Bx.lt (fun b hb => Nat.lt_of_lt_of_le (hlt b hb) hs) hS0_))
   clear hsm hcr hS0_
   refine hK.out _ _ (fun _ => hS) ?_
   clear hK K
   try simp only [Act.put, List.setIfInBounds_toArray, List.set]
   refine wpAnyL_take (i := 6) (oi := _) (v := ?_) (by (simp only [List.getElem?_toArray]; rfl)) (by kernel_rfl) (by kernel_rfl) (by kernel_rfl) (by kernel_rfl) (by exact fun _ _ _ h => h) (Or.inl ⟨by rfl, ?_⟩) (by assumption) ?_
   rotate_left
   ·
    intro wS hSw
    go_simp
    all_goals first | with_reducible rfl | rw [if_neg (by omega)]
   simp only [Act.put, List.setIfInBounds_toArray, List.set]
   refine wpAnyL_ready (rs := [7]) (by kernel_rfl) (by simp) ?_
   refine AllReadyL.cons (o := _) (by (simp only [List.getElem?_toArray]; rfl)) (fun K hK => ?_) AllReadyL.nil
   go_simp
   obtain ⟨Y_2, hw_, sw_, hv_, kw_⟩ := blocks1 Y_1 (.cells #[.int .i64 0, .int .i64 0, .int .i64 0, .int .i64 0, .int .i64 0, .int .i64 0, .int .i64 0, .int .i64 0, .int .i64 0, .slice none 0 0, .slice none 0 0] 34)
   rw [← hw_]
   clear hw_
   have hgl_ : Y_1.heap.size < Y_2.heap.size := by omega
   have hg0_ : Y.heap.size ≤ Y_1.heap.size := Nat.le_trans hBW hS.2.size
   have hgX := Lib.hid (show BlkIs Y_1.heap.size #[.int .i64 0, .int .i64 0, .int .i64 0, .int .i64 0, .int .i64 0, .int .i64 0, .int .i64 0, .int .i64 0, .int .i64 0, .slice none 0 0, .slice none 0 0] 34 Y_2 from hv_)
   clear hv_ sw_
   replace CR := Lib.hid (CR.out.box kw_ Y_2.heap.size)
   have hRK : Below Y.heap.size Y Y_2 := hS.2.trans (kw_.mono (Nat.le_trans hBW hS.2.size))
   clear hS
   have hS := KeptB.of hRK
   clear hRK
   replace R0 := Lib.hid (R0.out.below kw_)
   clear kw_
   refine hK.out _ _ (fun _ => hS) ?_
   clear hK K
   try simp only [Act.put, List.setIfInBounds_toArray, List.set]
   refine wpAnyL_ready (rs := [8]) (by kernel_rfl) (by simp) ?_
   refine AllReadyL.cons (o := _) (by (simp only [List.getElem?_toArray]; rfl)) (fun K hK => ?_) AllReadyL.nil
   have zq_ := hgX.out
   unfold BlkIs at zq_
   have cq_ := cell_of_block zq_
   have fq_ := unfrozen_of_block zq_
   have lq_ := lt_of_block zq_
   go_simp
   obtain ⟨Q1, hV_, sV_, x9, oV_, kV_⟩ := stored11 Y_2 (Y_1.heap.size) _ _ _ _ _ _ _ _ _ _ _ (.int .i64 5) (.int .i64 r0.me) (.int .i64 r0.view) (.int .i64 0) (.int .i64 0) (.int .i64 0) (.int .i64 0) (.int .i64 0) (.int .i64 0) (.slice a1 cl.length c1) (.slice none 0 0) zq_
   rw [← hV_]
   clear hV_
   replace CR := Lib.hid (Rob.weak (X' := X1) (CR.out.stored sV_ oV_ (by first | exact .inr ⟨hg0_, hgl_⟩ | exact .inr ⟨Nat.le_refl _, hgl_⟩)) (by first | exact fun b hb => .inl hb | exact fun b hb => .inl (.inl hb)))
   have KQ := Lib.hid (hS.2.trans (kV_.mono hg0_))
   replace hS := KeptB.of KQ.out
   clear zq_ cq_ fq_ lq_ kV_ oV_ sV_ hgX
   refine hK.out _ _ (fun _ => hS) ?_
   clear hK K
   try simp only [Act.put, List.setIfInBounds_toArray, List.set]
   refine wpAnyL_done (by kernel_rfl) ?_ _
   clear hS
   clear cx fx lx
   go_wp2_with fail
   go_meet
   exact ⟨Y_1.heap.size, (turnM r0.me r0.view (.slice a1 cl.length c1) cl), a1, none, c1, 0, rfl, hg0_, x9, rfl, rfl, ⟨⟨by show cl.length ≤ 8; omega, SM.out⟩, Nat.zero_le _, fun z hz => nomatch hz⟩, CR.out.imp (fun V h => ⟨h, isSl_nil _ _ _ _ (Nat.zero_le _) _, fun z hz => nomatch hz⟩), KQ.out⟩
  refine AllReadyL.cons (o := _) (by (simp only [List.getElem?_toArray]; rfl)) (fun K hK => ?_) ?_
  ·
   skip
   go_simp
   obtain ⟨Y_1, hw_, sw_, hv_, kw_⟩ := blocks1 Y_0 (.cells #[.int .i64 0, .int .i64 0, .int .i64 0, .int .i64 0, .int .i64 0, .int .i64 0, .int .i64 0, .int .i64 0, .int .i64 0, .slice none 0 0, .slice none 0 0] 34)
   rw [← hw_]
   clear hw_
   have hgl_ : Y_0.heap.size < Y_1.heap.size := by omega
   have hg0_ : Y.heap.size ≤ Y_0.heap.size := Nat.le_trans hBW hS.2.size
   have hgX := Lib.hid (show BlkIs Y_0.heap.size #[.int .i64 0, .int .i64 0, .int .i64 0, .int .i64 0, .int .i64 0, .int .i64 0, .int .i64 0, .int .i64 0, .int .i64 0, .slice none 0 0, .slice none 0 0] 34 Y_1 from hv_)
   clear hv_ sw_
   have hRK : Below Y.heap.size Y Y_1 := hS.2.trans (kw_.mono (Nat.le_trans hBW hS.2.size))
   clear hS
   have hS := KeptB.of hRK
   clear hRK
   replace R0 := Lib.hid (R0.out.below kw_)
   clear kw_
   refine hK.out _ _ (fun _ => hS) ?_
   clear hK K
   try simp only [Act.put, List.setIfInBounds_toArray, List.set]
   refine wpAnyL_ready (rs := [5]) (by kernel_rfl) (by simp) ?_
   refine AllReadyL.cons (o := _) (by (simp only [List.getElem?_toArray]; rfl)) (fun K hK => ?_) AllReadyL.nil
   have hS0_ : Y.heap.size ≤ Y_1.heap.size := hS.2.size
   go_simp
   refine (l5Claims_c r0 Y_1 R0.out.out).mono ?_
   rintro e Y_2 ⟨a1, c1, cl, rfl, hc5, hsm, hcr, kw_⟩
   have hRK : Below Y.heap.size Y Y_2 := hS.2.trans (kw_.mono (Nat.le_trans hBW hS.2.size))
   clear hS
   have hS := KeptB.of hRK
   clear hRK
   replace R0 := Lib.hid (R0.out.below kw_)
   replace hgX := Lib.hid (hgX.out.below kw_)
   clear kw_
   have SM := Lib.hid hsm
   have CR := Lib.hid (hcr.robX (X := Bx X1 Y.heap.size Y_1.heap.size) seven_len (Bx.lt (fun b hb => Nat.lt_of_lt_of_le (hlt b hb) hs) hS0_))
   clear hsm hcr hS0_
   refine hK.out _ _ (fun _ => hS) ?_
   clear hK K
   try simp only [Act.put, List.setIfInBounds_toArray, List.set]
   refine wpAnyL_take (i := 6) (oi := _) (v := ?_) (by (simp only [List.getElem?_toArray]; rfl)) (by kernel_rfl) (by kernel_rfl) (by kernel_rfl) (by kernel_rfl) (by exact fun _ _ _ h => h) (Or.inl ⟨by rfl, ?_⟩) (by assumption) ?_
   rotate_left
   ·
    intro wS hSw
    go_simp
    all_goals first | with_reducible rfl | rw [if_neg (by omega)]
   simp only [Act.put, List.setIfInBounds_toArray, List.set]
   refine wpAnyL_ready (rs := [8]) (by kernel_rfl) (by simp) ?_
   refine AllReadyL.cons (o := _) (by (simp only [List.getElem?_toArray]; rfl)) (fun K hK => ?_) AllReadyL.nil
   have zq_ := hgX.out
   unfold BlkIs at zq_
   have cq_ := cell_of_block zq_
   have fq_ := unfrozen_of_block zq_
   have lq_ := lt_of_block zq_
   go_simp
   obtain ⟨Q1, hV_, sV_, x9, oV_, kV_⟩ := stored11 Y_2 (Y_0.heap.size) _ _ _ _ _ _ _ _ _ _ _ (.int .i64 5) (.int .i64 r0.me) (.int .i64 r0.view) (.int .i64 0) (.int .i64 0) (.int .i64 0) (.int .i64 0) (.int .i64 0) (.int .i64 0) (.slice a1 cl.length c1) (.slice none 0 0) zq_
   rw [← hV_]
   clear hV_
   replace CR := Lib.hid (Rob.weak (X' := X1) (CR.out.stored sV_ oV_ (by first | exact .inr ⟨hg0_, hgl_⟩ | exact .inr ⟨Nat.le_refl _, hgl_⟩)) (by first | exact fun b hb => .inl hb | exact fun b hb => .inl (.inl hb)))
   have KQ := Lib.hid (hS.2.trans (kV_.mono hg0_))
   replace hS := KeptB.of KQ.out
   clear zq_ cq_ fq_ lq_ kV_ oV_ sV_ hgX
   refine hK.out _ _ (fun _ => hS) ?_
   clear hK K
   try simp only [Act.put, List.setIfInBounds_toArray, List.set]
   refine wpAnyL_done (by kernel_rfl) ?_ _
   clear hS
   clear cx fx lx
   go_wp2_with fail
   go_meet
   exact ⟨Y_0.heap.size, (turnM r0.me r0.view (.slice a1 cl.length c1) cl), a1, none, c1, 0, rfl, hg0_, x9, rfl, rfl, ⟨⟨by show cl.length ≤ 8; omega, SM.out⟩, Nat.zero_le _, fun z hz => nomatch hz⟩, CR.out.imp (fun V h => ⟨h, isSl_nil _ _ _ _ (Nat.zero_le _) _, fun z hz => nomatch hz⟩), KQ.out⟩
  exact AllReadyL.nil
 case rest =>
  obtain ⟨g, m, a1, b1, c1, d1, rfl, hg, l, hv1, hv2, hmf, hmo, k1_⟩ := hcut
  have MV := Lib.hid (And.intro hv1 hv2)
  have MO := Lib.hid hmo
  have HMF := Lib.hid hmf
  clear hv1 hv2 hmf hmo
  have lz_ := lt_of_block z
  replace x := carryB k1_ (lt_of_block x) x
  replace z := carryB k1_ lz_ z
  replace R0 := Lib.hid (R0.out.below k1_)
  replace HT := Lib.hid (HT.out.below k1_)
  have hgW : W.heap.size ≤ g := Nat.le_trans hs hg
  replace K := below_next K k1_
  replace hs := Nat.le_trans hs k1_.size
  clear k1_ lz_ hg
  have hgn1 : ¬ (g = w.heap.size) := by omega
  have hgn2 : ¬ (w.heap.size = g) := by omega
  have hgn3 : ¬ (g = w.heap.size + 1) := by omega
  have hgn4 : ¬ (w.heap.size + 1 = g) := by omega
  have cx := cell_of_block x
  have fx := unfrozen_of_block x
  have lx := lt_of_block x
  have cz := cell_of_block z
  have fz := unfrozen_of_block z
  have lz := lt_of_block z
  have cl := cell_of_block l
  have fl := unfrozen_of_block l
  have ll := lt_of_block l
  go_wp2_with fail
  refine (l5Note_c X1 T D r0 _ m wc R0.out F0.out (isMg_sl MV.out.1 MV.out.2 MO.out.out) HMF.out (fun b hb => Nat.lt_of_lt_of_le (hlt b hb) hs) (by omega)).mono ?_
  rintro e V1 ⟨r1, rfl, hr1, hf1, k1_⟩
  clear cx fx lx cz fz lz cl fl ll
  clear R0 F0
  have lx_ := lt_of_block x
  have lz_ := lt_of_block z
  have ll_ := lt_of_block l
  replace x := carryB k1_ lx_ x
  replace z := carryB k1_ lz_ z
  replace l := carryB k1_ ll_ l
  replace MO := Lib.hid (MO.out.below k1_)
  replace HT := Lib.hid (HT.out.below k1_)
  replace K := below_next K k1_
  replace hs := Nat.le_trans hs k1_.size
  clear k1_ lx_ lz_ ll_
  have R1 := Lib.hid hr1
  have F1 := Lib.hid hf1
  clear hr1 hf1
  have cx := cell_of_block x
  have fx := unfrozen_of_block x
  have lx := lt_of_block x
  have cz := cell_of_block z
  have fz := unfrozen_of_block z
  have lz := lt_of_block z
  have cl := cell_of_block l
  have fl := unfrozen_of_block l
  have ll := lt_of_block l
  go_upto_region 5 with fail
  obtain ⟨V2, hV_, sV, xV, oV, kV⟩ := stored7 V1 w.heap.size _ _ _ _ _ _ _ (.int .i64 r1.me) (.int .i64 r1.view) (.bool r1.live) (.int .i64 r1.nx) (.slice r1.ta r1.tk.length r1.tc) (.slice r1.ha r1.hd.length r1.hc) (.slice r1.da r1.dn.length r1.dc) x
  rw [← hV_]
  clear hV_
  clear cx fx lx cz fz lz cl fl ll
  replace x := xV
  replace z := (oV _ (by omega)).trans z
  replace l := (oV _ hgn1).trans l
  replace R1 := Lib.hid (R1.out.stored sV oV (hin _ (by omega) (by omega)))
  replace MO := Lib.hid (MO.out.stored sV oV (hin _ (by omega) (by omega)))
  replace HT := Lib.hid (HMSX.out _ (K.trans (kV.mono (by omega)))).1.bounds.2.2.2
  replace K := K.trans (kV.mono (by omega))
  replace hs : W.heap.size ≤ V2.heap.size := by omega
  clear xV oV kV sV
  go_cut [7, 8] (fun s7 s8 wx => ∃ (g2 : Nat) (r2 : Rk) (a4 : Option Addr) (c4 : Nat) (sy : List Mg), s7 = .pointer (some ⟨g2, 0, none⟩) ∧ s8 = .slice a4 sy.length c4 ∧ V2.heap.size ≤ g2 ∧ wx.heap[g2]? = some (.cells #[.int .i64 r2.me, .int .i64 r2.view, .bool r2.live, .int .i64 r2.nx, .slice r2.ta r2.tk.length r2.tc, .slice r2.ha r2.hd.length r2.hc, .slice r2.da r2.dn.length r2.dc] 78 (0, 0)) ∧ Rob X1 r2.ok wx ∧ r2.fit (T + 5) D ∧ Rob X1 (fun V => IsMs V (.slice a4 sy.length c4) sy) wx ∧ MsFit sy ∧ sy.length ≤ 6 ∧ Below V2.heap.size V2 wx)
  case first =>
   have hBW := Nat.le_refl V2.heap.size
   have KW := Lib.hid K
   have cx := cell_of_block x
   have fx := unfrozen_of_block x
   have lx := lt_of_block x
   have cl := cell_of_block l
   have fl := unfrozen_of_block l
   have ll := lt_of_block l
   refine wp_region_L (fun w' => ((∀ b o, b < V2.heap.size → (w').cell? ⟨b, o, none⟩ = (V2).cell? ⟨b, o, none⟩) ∧ Below (V2.heap.size) (V2) (w'))) [] (by kernel_rfl) ?_
   obtain ⟨V2_0, hw_, kw_⟩ : ∃ wd, wd = V2.drew ∧ Below V2.heap.size V2 wd := ⟨_, rfl, Below.drew (Below.refl _ _)⟩
   rw [← hw_]
   clear hw_
   have hS := KeptB.of (kw_.mono hBW)
   replace HT := Lib.hid (HT.out.below kw_)
   clear kw_
   refine wpAnyL_take (i := 0) (oi := _) (v := ?_) (by (simp only [List.getElem?_toArray]; rfl)) (by kernel_rfl) (by kernel_rfl) (by kernel_rfl) (by kernel_rfl) (by exact fun _ _ _ h => h) (Or.inl ⟨by rfl, ?_⟩) (by assumption) ?_
   rotate_left
   ·
    intro wS hSw
    go_simp
    all_goals first | with_reducible rfl | rw [if_neg (by omega)]
   simp only [Act.put, List.setIfInBounds_toArray, List.set]
   refine wpAnyL_take (i := 1) (oi := _) (v := ?_) (by (simp only [List.getElem?_toArray]; rfl)) (by kernel_rfl) (by kernel_rfl) (by kernel_rfl) (by kernel_rfl) (by exact fun _ _ _ h => h) (Or.inl ⟨by rfl, ?_⟩) (by assumption) ?_
   rotate_left
   ·
    intro wS hSw
    go_simp
    all_goals first | with_reducible rfl | rw [if_neg (by omega)]
   simp only [Act.put, List.setIfInBounds_toArray, List.set]
   refine wpAnyL_take (i := 3) (oi := _) (v := ?_) (by (simp only [List.getElem?_toArray]; rfl)) (by kernel_rfl) (by kernel_rfl) (by kernel_rfl) (by kernel_rfl) (by exact fun _ _ _ h => h) (Or.inl ⟨by rfl, ?_⟩) (by assumption) ?_
   rotate_left
   ·
    intro wS hSw
    go_simp
    all_goals first | with_reducible rfl | rw [if_neg (by omega)]
   simp only [Act.put, List.setIfInBounds_toArray, List.set]
   refine wpAnyL_take (i := 5) (oi := _) (v := ?_) (by (simp only [List.getElem?_toArray]; rfl)) (by kernel_rfl) (by kernel_rfl) (by kernel_rfl) (by kernel_rfl) (by exact fun _ _ _ h => h) (Or.inl ⟨by rfl, ?_⟩) (by assumption) ?_
   rotate_left
   ·
    intro wS hSw
    go_simp
    all_goals first | with_reducible rfl | rw [if_neg (by omega)]
   simp only [Act.put, List.setIfInBounds_toArray, List.set]
   refine wpAnyL_ready (rs := [2, 6, 12]) (by kernel_rfl) (by simp) ?_
   refine AllReadyL.cons (o := _) (by (simp only [List.getElem?_toArray]; rfl)) (fun K hK => ?_) ?_
   ·
    skip
    refine step_build0M (by rfl) (by rfl) elmMg ?_
    obtain ⟨V2_1, hw_, kw_⟩ : ∃ V, V = V2_0.alloc (.cells #[] 34) ∧ Below V2_0.heap.size V2_0 V := ⟨_, rfl, (Below.refl _ _).alloc (Nat.le_refl _) _⟩
    rw [← hw_]
    clear hw_
    have hRK : Below V2.heap.size V2 V2_1 := hS.2.trans (kw_.mono (Nat.le_trans hBW hS.2.size))
    clear hS
    have hS := KeptB.of hRK
    clear hRK
    replace HT := Lib.hid (HT.out.below kw_)
    clear kw_
    refine hK.out _ _ (fun _ => hS) ?_
    clear hK K
    try simp only [Act.put, List.setIfInBounds_toArray, List.set]
    refine wpAnyL_ready (rs := [4, 6, 12]) (by kernel_rfl) (by simp) ?_
    refine AllReadyL.cons (o := _) (by (simp only [List.getElem?_toArray]; rfl)) (fun K hK => ?_) ?_
    ·
     skip
     refine step_append_newM V2_1.heap.size (by rfl) (.tmp 27) (.tmp 28) (by rfl) elmMg (by rfl) (by rfl) (fun z hz => mg_one ((HMSX.out _ (KW.out.trans (hS.2.mono KW.out.size))).2 z hz)) (HT.out) (by rfl) (by simp only [maxLen]; omega) (by omega) (Nat.le_refl _) ?_
     intro a2 c2 V2_2 q_
     have hq_ : V2.heap.size ≤ V2_1.heap.size := Nat.le_trans hBW hS.2.size
     have kw_ := q_.below
     have hRK : Below V2.heap.size V2 V2_2 := hS.2.trans (kw_.mono (Nat.le_trans hBW hS.2.size))
     clear hS
     have hS := KeptB.of hRK
     clear hRK
     replace HT := Lib.hid (HT.out.below kw_)
     clear kw_
     have RT := Lib.hid (q_.row.low hq_)
     clear q_ hq_
     refine hK.out _ _ (fun _ => hS) ?_
     clear hK K
     try simp only [Act.put, List.setIfInBounds_toArray, List.set]
     refine wpAnyL_ready (rs := [6, 12]) (by kernel_rfl) (by simp) ?_
     refine AllReadyL.cons (o := _) (by (simp only [List.getElem?_toArray]; rfl)) (fun K hK => ?_) ?_
     ·
      skip
      go_simp
      obtain ⟨V2_3, hw_, sw_, hv_, kw_⟩ := blocks1 V2_2 (.cells #[.int .i64 m.k, .int .i64 m.f, .int .i64 m.v, .int .i64 m.s, .int .i64 m.r.c, .int .i64 m.r.n, .int .i64 m.r.o, .int .i64 m.r.x, .int .i64 m.r.y, .slice a1 m.cl.length c1, .slice b1 m.vs.length d1] 34)
      rw [← hw_]
      clear hw_ sw_
      have hRK : Below V2.heap.size V2 V2_3 := hS.2.trans (kw_.mono (Nat.le_trans hBW hS.2.size))
      clear hS
      have hS := KeptB.of hRK
      clear hRK
      replace HT := Lib.hid (HT.out.below kw_)
      replace RT := Lib.hid (RT.out.below kw_)
      clear kw_
      have RV := Lib.hid (show RowsAt V2_3 (some ⟨V2_2.heap.size, 0, none⟩) 11 Mg.cs [m] from rows_of_block (R := Mg.cs) (zs := [m]) eleven_len (by rw [flat_m MV.out.1 MV.out.2]; exact hv_))
      clear hv_
      refine hK.out _ _ (fun _ => hS) ?_
      clear hK K
      try simp only [Act.put, List.setIfInBounds_toArray, List.set]
      refine wpAnyL_ready (rs := [7, 12]) (by kernel_rfl) (by simp) ?_
      refine AllReadyL.cons (o := _) (by (simp only [List.getElem?_toArray]; rfl)) (fun K hK => ?_) ?_
      ·
       skip
       refine step_append_elm (by rfl) (.tmp 29) (.tmp 31) (by rfl) (ms.length + 1) elmMg (by rfl) (by rfl) RT.out (fun z hz => by rw [List.mem_singleton.1 hz]; exact mg_one (MO.out.below hS.2).out) RV.out (by rfl) (by rfl) (by rfl) (by simp only [maxLen]; omega) (by omega) (Nat.le_trans hBW hS.2.size) ?_
       intro a3 c3 V2_4 q_
       have hrb_ : ∀ g, rowBlk _ _ = some g → V2.heap.size ≤ g := fun g hg => (RT.out.blk hg).1
       have hRK : Below V2.heap.size V2 V2_4 := hS.2.trans (q_.below (B' := V2.heap.size) (Nat.le_trans hBW hS.2.size) hrb_)
       clear hS
       have hS := KeptB.of hRK
       clear hRK
       have RT2 := Lib.hid (q_.row)
       clear q_ hrb_
       refine hK.out _ _ (fun _ => hS) ?_
       clear hK K
       try simp only [Act.put, List.setIfInBounds_toArray, List.set]
       refine wpAnyL_ready (rs := [8, 12]) (by kernel_rfl) (by simp) ?_
       refine AllReadyL.cons (o := _) (by (simp only [List.getElem?_toArray]; rfl)) (fun K hK => ?_) ?_
       ·
        skip
        have IS := Lib.hid (show IsMs V2_4 (.slice a3 (ms.length + 1) c3) (ms ++ [m]) from ⟨by
         have h := RT2.out.sl eleven_len
         rw [List.length_append] at h
         exact h, fun z hz => (List.mem_append.1 hz).elim (fun h' => (HMSX.out _ (KW.out.trans (hS.2.mono KW.out.size))).2 z h') (fun h' => by rw [List.mem_singleton.1 h']; exact (MO.out.below hS.2).out)⟩)
        have MSF := Lib.hid (fit_snoc HMSF.out HMF.out)
        go_simp
        refine (l5Turned_c (Bx X1 V2.heap.size V2_4.heap.size) T D r1 _ _ m (ms ++ [m]) V2_4 (R1.out.box hS.2 _) F1.out (isMg_sl MV.out.1 MV.out.2 (MO.out.below hS.2).out) HMF.out IS.out MSF.out (Bx.lt (fun b hb => Nat.lt_of_lt_of_le (hlt b hb) hs) hS.2.size) hT).mono ?_
        rintro e V2_5 ⟨r2, a4, c4, sy, rfl, hr2, hf2, hsy2, hmf2, hln2, kw_⟩
        have hRK : Below V2.heap.size V2 V2_5 := hS.2.trans (kw_.mono (Nat.le_trans hBW hS.2.size))
        clear hS
        have hS := KeptB.of hRK
        clear hRK
        replace RT2 := Lib.hid (RT2.out.below kw_)
        clear kw_
        have R2 := Lib.hid hr2
        have F2 := Lib.hid hf2
        have S2 := Lib.hid hsy2
        have MF2 := Lib.hid hmf2
        have LN2 := Lib.hid hln2
        clear hr2 hf2 hsy2 hmf2 hln2 IS MSF
        refine hK.out _ _ (fun _ => hS) ?_
        clear hK K
        try simp only [Act.put, List.setIfInBounds_toArray, List.set]
        refine wpAnyL_take (i := 9) (oi := _) (v := ?_) (by (simp only [List.getElem?_toArray]; rfl)) (by kernel_rfl) (by kernel_rfl) (by kernel_rfl) (by kernel_rfl) (by exact fun _ _ _ h => h) (Or.inl ⟨by rfl, ?_⟩) (by assumption) ?_
        rotate_left
        ·
         intro wS hSw
         go_simp
         all_goals first | with_reducible rfl | rw [if_neg (by omega)]
        simp only [Act.put, List.setIfInBounds_toArray, List.set]
        refine wpAnyL_take (i := 10) (oi := _) (v := ?_) (by (simp only [List.getElem?_toArray]; rfl)) (by kernel_rfl) (by kernel_rfl) (by kernel_rfl) (by kernel_rfl) (by exact fun _ _ _ h => h) (Or.inl ⟨by rfl, ?_⟩) (by assumption) ?_
        rotate_left
        ·
         intro wS hSw
         go_simp
         all_goals first | with_reducible rfl | rw [if_neg (by omega)]
        simp only [Act.put, List.setIfInBounds_toArray, List.set]
        refine wpAnyL_take (i := 11) (oi := _) (v := ?_) (by (simp only [List.getElem?_toArray]; rfl)) (by kernel_rfl) (by kernel_rfl) (by kernel_rfl) (by kernel_rfl) (by exact fun _ _ _ h => h) (Or.inl ⟨by rfl, ?_⟩) (by assumption) ?_
        rotate_left
        ·
         intro wS hSw
         go_simp
         all_goals first | with_reducible rfl | rw [if_neg (by omega)]
        simp only [Act.put, List.setIfInBounds_toArray, List.set]
        refine wpAnyL_ready (rs := [12]) (by kernel_rfl) (by simp) ?_
        refine AllReadyL.cons (o := _) (by (simp only [List.getElem?_toArray]; rfl)) (fun K hK => ?_) AllReadyL.nil
        go_simp
        obtain ⟨V2_6, hw_, sw_, hv_, kw_⟩ := blocks1 V2_5 (.cells #[.int .i64 0, .int .i64 0, .bool false, .int .i64 0, .slice none 0 0, .slice none 0 0, .slice none 0 0] 78)
        rw [← hw_]
        clear hw_
        have hgl_ : V2_5.heap.size < V2_6.heap.size := by omega
        have hg0_ : V2.heap.size ≤ V2_5.heap.size := Nat.le_trans hBW hS.2.size
        have hgX := Lib.hid (show BlkIs V2_5.heap.size #[.int .i64 0, .int .i64 0, .bool false, .int .i64 0, .slice none 0 0, .slice none 0 0, .slice none 0 0] 78 V2_6 from hv_)
        clear hv_ sw_
        replace R2 := Lib.hid (R2.out.box kw_ V2_6.heap.size)
        replace S2 := Lib.hid (S2.out.box kw_ V2_6.heap.size)
        have hRK : Below V2.heap.size V2 V2_6 := hS.2.trans (kw_.mono (Nat.le_trans hBW hS.2.size))
        clear hS
        have hS := KeptB.of hRK
        clear hRK
        replace RT2 := Lib.hid (RT2.out.below kw_)
        clear kw_
        refine hK.out _ _ (fun _ => hS) ?_
        clear hK K
        try simp only [Act.put, List.setIfInBounds_toArray, List.set]
        refine wpAnyL_ready (rs := [13]) (by kernel_rfl) (by simp) ?_
        refine AllReadyL.cons (o := _) (by (simp only [List.getElem?_toArray]; rfl)) (fun K hK => ?_) AllReadyL.nil
        have zq_ := hgX.out
        unfold BlkIs at zq_
        have cq_ := cell_of_block zq_
        have fq_ := unfrozen_of_block zq_
        have lq_ := lt_of_block zq_
        go_simp
        obtain ⟨Q1, hV_, sV_, x9, oV_, kV_⟩ := stored7 V2_6 (V2_5.heap.size) _ _ _ _ _ _ _ (.int .i64 r2.me) (.int .i64 r2.view) (.bool r2.live) (.int .i64 r2.nx) (.slice r2.ta r2.tk.length r2.tc) (.slice r2.ha r2.hd.length r2.hc) (.slice r2.da r2.dn.length r2.dc) zq_
        rw [← hV_]
        clear hV_
        replace R2 := Lib.hid (Rob.weak (X' := X1) (R2.out.stored sV_ oV_ (by first | exact .inr ⟨hg0_, hgl_⟩ | exact .inr ⟨Nat.le_refl _, hgl_⟩)) (by first | exact fun b hb => .inl hb | exact fun b hb => .inl (.inl hb)))
        replace S2 := Lib.hid (Rob.weak (X' := X1) (S2.out.stored sV_ oV_ (by first | exact .inr ⟨hg0_, hgl_⟩ | exact .inr ⟨Nat.le_refl _, hgl_⟩)) (by first | exact fun b hb => .inl hb | exact fun b hb => .inl (.inl hb)))
        have KQ := Lib.hid (hS.2.trans (kV_.mono hg0_))
        replace hS := KeptB.of KQ.out
        clear zq_ cq_ fq_ lq_ kV_ oV_ sV_ hgX
        refine hK.out _ _ (fun _ => hS) ?_
        clear hK K
        try simp only [Act.put, List.setIfInBounds_toArray, List.set]
        refine wpAnyL_take (i := 14) (oi := _) (v := ?_) (by (simp only [List.getElem?_toArray]; rfl)) (by kernel_rfl) (by kernel_rfl) (by kernel_rfl) (by kernel_rfl) (by exact fun _ _ _ h => h) (Or.inl ⟨by rfl, ?_⟩) (by assumption) ?_
        rotate_left
        ·
         intro wS hSw
         go_simp
         all_goals first | with_reducible rfl | rw [if_neg (by omega)]
        simp only [Act.put, List.setIfInBounds_toArray, List.set]
        refine wpAnyL_done (by kernel_rfl) ?_ _
        clear hS
        clear cx fx lx cl fl ll
        go_wp2_with fail
        go_meet
        exact ⟨V2_5.heap.size, r2, a4, c4, sy, rfl, rfl, hg0_, x9, R2.out, F2.out, S2.out, MF2.out, LN2.out, KQ.out⟩
       refine AllReadyL.cons (o := _) (by (simp only [List.getElem?_toArray]; rfl)) (fun K hK => ?_) ?_
       ·
        skip
        go_simp
        obtain ⟨V2_5, hw_, sw_, hv_, kw_⟩ := blocks1 V2_4 (.cells #[.int .i64 0, .int .i64 0, .bool false, .int .i64 0, .slice none 0 0, .slice none 0 0, .slice none 0 0] 78)
        rw [← hw_]
        clear hw_
        have hgl_ : V2_4.heap.size < V2_5.heap.size := by omega
        have hg0_ : V2.heap.size ≤ V2_4.heap.size := Nat.le_trans hBW hS.2.size
        have hgX := Lib.hid (show BlkIs V2_4.heap.size #[.int .i64 0, .int .i64 0, .bool false, .int .i64 0, .slice none 0 0, .slice none 0 0, .slice none 0 0] 78 V2_5 from hv_)
        clear hv_ sw_
        have hRK : Below V2.heap.size V2 V2_5 := hS.2.trans (kw_.mono (Nat.le_trans hBW hS.2.size))
        clear hS
        have hS := KeptB.of hRK
        clear hRK
        replace RT2 := Lib.hid (RT2.out.below kw_)
        clear kw_
        refine hK.out _ _ (fun _ => hS) ?_
        clear hK K
        try simp only [Act.put, List.setIfInBounds_toArray, List.set]
        refine wpAnyL_ready (rs := [8]) (by kernel_rfl) (by simp) ?_
        refine AllReadyL.cons (o := _) (by (simp only [List.getElem?_toArray]; rfl)) (fun K hK => ?_) AllReadyL.nil
        have hgl_ := hgX.out.lt
        have IS := Lib.hid (show IsMs V2_5 (.slice a3 (ms.length + 1) c3) (ms ++ [m]) from ⟨by
         have h := RT2.out.sl eleven_len
         rw [List.length_append] at h
         exact h, fun z hz => (List.mem_append.1 hz).elim (fun h' => (HMSX.out _ (KW.out.trans (hS.2.mono KW.out.size))).2 z h') (fun h' => by rw [List.mem_singleton.1 h']; exact (MO.out.below hS.2).out)⟩)
        have MSF := Lib.hid (fit_snoc HMSF.out HMF.out)
        go_simp
        refine (l5Turned_c (Bx X1 V2.heap.size V2_5.heap.size) T D r1 _ _ m (ms ++ [m]) V2_5 (R1.out.box hS.2 _) F1.out (isMg_sl MV.out.1 MV.out.2 (MO.out.below hS.2).out) HMF.out IS.out MSF.out (Bx.lt (fun b hb => Nat.lt_of_lt_of_le (hlt b hb) hs) hS.2.size) hT).mono ?_
        rintro e V2_6 ⟨r2, a4, c4, sy, rfl, hr2, hf2, hsy2, hmf2, hln2, kw_⟩
        have hRK : Below V2.heap.size V2 V2_6 := hS.2.trans (kw_.mono (Nat.le_trans hBW hS.2.size))
        clear hS
        have hS := KeptB.of hRK
        clear hRK
        replace RT2 := Lib.hid (RT2.out.below kw_)
        replace hgX := Lib.hid (hgX.out.below kw_)
        clear kw_
        have R2 := Lib.hid hr2
        have F2 := Lib.hid hf2
        have S2 := Lib.hid hsy2
        have MF2 := Lib.hid hmf2
        have LN2 := Lib.hid hln2
        clear hr2 hf2 hsy2 hmf2 hln2 IS MSF
        refine hK.out _ _ (fun _ => hS) ?_
        clear hK K
        try simp only [Act.put, List.setIfInBounds_toArray, List.set]
        refine wpAnyL_take (i := 9) (oi := _) (v := ?_) (by (simp only [List.getElem?_toArray]; rfl)) (by kernel_rfl) (by kernel_rfl) (by kernel_rfl) (by kernel_rfl) (by exact fun _ _ _ h => h) (Or.inl ⟨by rfl, ?_⟩) (by assumption) ?_
        rotate_left
        ·
         intro wS hSw
         go_simp
         all_goals first | with_reducible rfl | rw [if_neg (by omega)]
        simp only [Act.put, List.setIfInBounds_toArray, List.set]
        refine wpAnyL_take (i := 10) (oi := _) (v := ?_) (by (simp only [List.getElem?_toArray]; rfl)) (by kernel_rfl) (by kernel_rfl) (by kernel_rfl) (by kernel_rfl) (by exact fun _ _ _ h => h) (Or.inl ⟨by rfl, ?_⟩) (by assumption) ?_
        rotate_left
        ·
         intro wS hSw
         go_simp
         all_goals first | with_reducible rfl | rw [if_neg (by omega)]
        simp only [Act.put, List.setIfInBounds_toArray, List.set]
        refine wpAnyL_take (i := 11) (oi := _) (v := ?_) (by (simp only [List.getElem?_toArray]; rfl)) (by kernel_rfl) (by kernel_rfl) (by kernel_rfl) (by kernel_rfl) (by exact fun _ _ _ h => h) (Or.inl ⟨by rfl, ?_⟩) (by assumption) ?_
        rotate_left
        ·
         intro wS hSw
         go_simp
         all_goals first | with_reducible rfl | rw [if_neg (by omega)]
        simp only [Act.put, List.setIfInBounds_toArray, List.set]
        refine wpAnyL_ready (rs := [13]) (by kernel_rfl) (by simp) ?_
        refine AllReadyL.cons (o := _) (by (simp only [List.getElem?_toArray]; rfl)) (fun K hK => ?_) AllReadyL.nil
        have zq_ := hgX.out
        unfold BlkIs at zq_
        have cq_ := cell_of_block zq_
        have fq_ := unfrozen_of_block zq_
        have lq_ := lt_of_block zq_
        go_simp
        obtain ⟨Q1, hV_, sV_, x9, oV_, kV_⟩ := stored7 V2_6 (V2_4.heap.size) _ _ _ _ _ _ _ (.int .i64 r2.me) (.int .i64 r2.view) (.bool r2.live) (.int .i64 r2.nx) (.slice r2.ta r2.tk.length r2.tc) (.slice r2.ha r2.hd.length r2.hc) (.slice r2.da r2.dn.length r2.dc) zq_
        rw [← hV_]
        clear hV_
        replace R2 := Lib.hid (Rob.weak (X' := X1) (R2.out.stored sV_ oV_ (by first | exact .inr ⟨hg0_, hgl_⟩ | exact .inr ⟨Nat.le_refl _, hgl_⟩)) (by first | exact fun b hb => .inl hb | exact fun b hb => .inl (.inl hb)))
        replace S2 := Lib.hid (Rob.weak (X' := X1) (S2.out.stored sV_ oV_ (by first | exact .inr ⟨hg0_, hgl_⟩ | exact .inr ⟨Nat.le_refl _, hgl_⟩)) (by first | exact fun b hb => .inl hb | exact fun b hb => .inl (.inl hb)))
        have KQ := Lib.hid (hS.2.trans (kV_.mono hg0_))
        replace hS := KeptB.of KQ.out
        clear zq_ cq_ fq_ lq_ kV_ oV_ sV_ hgX
        refine hK.out _ _ (fun _ => hS) ?_
        clear hK K
        try simp only [Act.put, List.setIfInBounds_toArray, List.set]
        refine wpAnyL_take (i := 14) (oi := _) (v := ?_) (by (simp only [List.getElem?_toArray]; rfl)) (by kernel_rfl) (by kernel_rfl) (by kernel_rfl) (by kernel_rfl) (by exact fun _ _ _ h => h) (Or.inl ⟨by rfl, ?_⟩) (by assumption) ?_
        rotate_left
        ·
         intro wS hSw
         go_simp
         all_goals first | with_reducible rfl | rw [if_neg (by omega)]
        simp only [Act.put, List.setIfInBounds_toArray, List.set]
        refine wpAnyL_done (by kernel_rfl) ?_ _
        clear hS
        clear cx fx lx cl fl ll
        go_wp2_with fail
        go_meet
        exact ⟨V2_4.heap.size, r2, a4, c4, sy, rfl, rfl, hg0_, x9, R2.out, F2.out, S2.out, MF2.out, LN2.out, KQ.out⟩
       exact AllReadyL.nil
      refine AllReadyL.cons (o := _) (by (simp only [List.getElem?_toArray]; rfl)) (fun K hK => ?_) ?_
      ·
       skip
       have hgn := Lib.hid (show ∀ g', rowBlk a2 c2 = some g' → g' ≠ V2_3.heap.size from fun g' hg' => Nat.ne_of_lt (RT.out.blk hg').2)
       go_simp
       obtain ⟨V2_4, hw_, sw_, hv_, kw_⟩ := blocks1 V2_3 (.cells #[.int .i64 0, .int .i64 0, .bool false, .int .i64 0, .slice none 0 0, .slice none 0 0, .slice none 0 0] 78)
       rw [← hw_]
       clear hw_
       have hgl_ : V2_3.heap.size < V2_4.heap.size := by omega
       have hg0_ : V2.heap.size ≤ V2_3.heap.size := Nat.le_trans hBW hS.2.size
       have hgX := Lib.hid (show BlkIs V2_3.heap.size #[.int .i64 0, .int .i64 0, .bool false, .int .i64 0, .slice none 0 0, .slice none 0 0, .slice none 0 0] 78 V2_4 from hv_)
       clear hv_ sw_
       have hRK : Below V2.heap.size V2 V2_4 := hS.2.trans (kw_.mono (Nat.le_trans hBW hS.2.size))
       clear hS
       have hS := KeptB.of hRK
       clear hRK
       replace HT := Lib.hid (HT.out.below kw_)
       replace RT := Lib.hid (RT.out.below kw_)
       replace RV := Lib.hid (RV.out.below kw_)
       clear kw_
       refine hK.out _ _ (fun _ => hS) ?_
       clear hK K
       try simp only [Act.put, List.setIfInBounds_toArray, List.set]
       refine wpAnyL_ready (rs := [7]) (by kernel_rfl) (by simp) ?_
       refine AllReadyL.cons (o := _) (by (simp only [List.getElem?_toArray]; rfl)) (fun K hK => ?_) AllReadyL.nil
       refine step_append_elm (by rfl) (.tmp 29) (.tmp 31) (by rfl) (ms.length + 1) elmMg (by rfl) (by rfl) RT.out (fun z hz => by rw [List.mem_singleton.1 hz]; exact mg_one (MO.out.below hS.2).out) RV.out (by rfl) (by rfl) (by rfl) (by simp only [maxLen]; omega) (by omega) (Nat.le_trans hBW hS.2.size) ?_
       intro a3 c3 V2_5 q_
       have hrb_ : ∀ g, rowBlk _ _ = some g → V2.heap.size ≤ g := fun g hg => (RT.out.blk hg).1
       have hRK : Below V2.heap.size V2 V2_5 := hS.2.trans (q_.below (B' := V2.heap.size) (Nat.le_trans hBW hS.2.size) hrb_)
       clear hS
       have hS := KeptB.of hRK
       clear hRK
       have RT2 := Lib.hid (q_.row)
       replace hgX := Lib.hid (BlkIs.grown hgX.out q_.grown (fun g' hg' => hgn.out g' hg'))
       clear q_ hrb_
       refine hK.out _ _ (fun _ => hS) ?_
       clear hK K
       try simp only [Act.put, List.setIfInBounds_toArray, List.set]
       refine wpAnyL_ready (rs := [8]) (by kernel_rfl) (by simp) ?_
       refine AllReadyL.cons (o := _) (by (simp only [List.getElem?_toArray]; rfl)) (fun K hK => ?_) AllReadyL.nil
       have hgl_ := hgX.out.lt
       have IS := Lib.hid (show IsMs V2_5 (.slice a3 (ms.length + 1) c3) (ms ++ [m]) from ⟨by
        have h := RT2.out.sl eleven_len
        rw [List.length_append] at h
        exact h, fun z hz => (List.mem_append.1 hz).elim (fun h' => (HMSX.out _ (KW.out.trans (hS.2.mono KW.out.size))).2 z h') (fun h' => by rw [List.mem_singleton.1 h']; exact (MO.out.below hS.2).out)⟩)
       have MSF := Lib.hid (fit_snoc HMSF.out HMF.out)
       go_simp
       refine (l5Turned_c (Bx X1 V2.heap.size V2_5.heap.size) T D r1 _ _ m (ms ++ [m]) V2_5 (R1.out.box hS.2 _) F1.out (isMg_sl MV.out.1 MV.out.2 (MO.out.below hS.2).out) HMF.out IS.out MSF.out (Bx.lt (fun b hb => Nat.lt_of_lt_of_le (hlt b hb) hs) hS.2.size) hT).mono ?_
       rintro e V2_6 ⟨r2, a4, c4, sy, rfl, hr2, hf2, hsy2, hmf2, hln2, kw_⟩
       have hRK : Below V2.heap.size V2 V2_6 := hS.2.trans (kw_.mono (Nat.le_trans hBW hS.2.size))
       clear hS
       have hS := KeptB.of hRK
       clear hRK
       replace RT2 := Lib.hid (RT2.out.below kw_)
       replace hgX := Lib.hid (hgX.out.below kw_)
       clear kw_
       have R2 := Lib.hid hr2
       have F2 := Lib.hid hf2
       have S2 := Lib.hid hsy2
       have MF2 := Lib.hid hmf2
       have LN2 := Lib.hid hln2
       clear hr2 hf2 hsy2 hmf2 hln2 IS MSF
       refine hK.out _ _ (fun _ => hS) ?_
       clear hK K
       try simp only [Act.put, List.setIfInBounds_toArray, List.set]
       refine wpAnyL_take (i := 9) (oi := _) (v := ?_) (by (simp only [List.getElem?_toArray]; rfl)) (by kernel_rfl) (by kernel_rfl) (by kernel_rfl) (by kernel_rfl) (by exact fun _ _ _ h => h) (Or.inl ⟨by rfl, ?_⟩) (by assumption) ?_
       rotate_left
       ·
        intro wS hSw
        go_simp
        all_goals first | with_reducible rfl | rw [if_neg (by omega)]
       simp only [Act.put, List.setIfInBounds_toArray, List.set]
       refine wpAnyL_take (i := 10) (oi := _) (v := ?_) (by (simp only [List.getElem?_toArray]; rfl)) (by kernel_rfl) (by kernel_rfl) (by kernel_rfl) (by kernel_rfl) (by exact fun _ _ _ h => h) (Or.inl ⟨by rfl, ?_⟩) (by assumption) ?_
       rotate_left
       ·
        intro wS hSw
        go_simp
        all_goals first | with_reducible rfl | rw [if_neg (by omega)]
       simp only [Act.put, List.setIfInBounds_toArray, List.set]
       refine wpAnyL_take (i := 11) (oi := _) (v := ?_) (by (simp only [List.getElem?_toArray]; rfl)) (by kernel_rfl) (by kernel_rfl) (by kernel_rfl) (by kernel_rfl) (by exact fun _ _ _ h => h) (Or.inl ⟨by rfl, ?_⟩) (by assumption) ?_
       rotate_left
       ·
        intro wS hSw
        go_simp
        all_goals first | with_reducible rfl | rw [if_neg (by omega)]
       simp only [Act.put, List.setIfInBounds_toArray, List.set]
       refine wpAnyL_ready (rs := [13]) (by kernel_rfl) (by simp) ?_
       refine AllReadyL.cons (o := _) (by (simp only [List.getElem?_toArray]; rfl)) (fun K hK => ?_) AllReadyL.nil
       have zq_ := hgX.out
       unfold BlkIs at zq_
       have cq_ := cell_of_block zq_
       have fq_ := unfrozen_of_block zq_
       have lq_ := lt_of_block zq_
       go_simp
       obtain ⟨Q1, hV_, sV_, x9, oV_, kV_⟩ := stored7 V2_6 (V2_3.heap.size) _ _ _ _ _ _ _ (.int .i64 r2.me) (.int .i64 r2.view) (.bool r2.live) (.int .i64 r2.nx) (.slice r2.ta r2.tk.length r2.tc) (.slice r2.ha r2.hd.length r2.hc) (.slice r2.da r2.dn.length r2.dc) zq_
       rw [← hV_]
       clear hV_
       replace R2 := Lib.hid (Rob.weak (X' := X1) (R2.out.stored sV_ oV_ (by first | exact .inr ⟨hg0_, hgl_⟩ | exact .inr ⟨Nat.le_refl _, hgl_⟩)) (by first | exact fun b hb => .inl hb | exact fun b hb => .inl (.inl hb)))
       replace S2 := Lib.hid (Rob.weak (X' := X1) (S2.out.stored sV_ oV_ (by first | exact .inr ⟨hg0_, hgl_⟩ | exact .inr ⟨Nat.le_refl _, hgl_⟩)) (by first | exact fun b hb => .inl hb | exact fun b hb => .inl (.inl hb)))
       have KQ := Lib.hid (hS.2.trans (kV_.mono hg0_))
       replace hS := KeptB.of KQ.out
       clear zq_ cq_ fq_ lq_ kV_ oV_ sV_ hgX
       refine hK.out _ _ (fun _ => hS) ?_
       clear hK K
       try simp only [Act.put, List.setIfInBounds_toArray, List.set]
       refine wpAnyL_take (i := 14) (oi := _) (v := ?_) (by (simp only [List.getElem?_toArray]; rfl)) (by kernel_rfl) (by kernel_rfl) (by kernel_rfl) (by kernel_rfl) (by exact fun _ _ _ h => h) (Or.inl ⟨by rfl, ?_⟩) (by assumption) ?_
       rotate_left
       ·
        intro wS hSw
        go_simp
        all_goals first | with_reducible rfl | rw [if_neg (by omega)]
       simp only [Act.put, List.setIfInBounds_toArray, List.set]
       refine wpAnyL_done (by kernel_rfl) ?_ _
       clear hS
       clear cx fx lx cl fl ll
       go_wp2_with fail
       go_meet
       exact ⟨V2_3.heap.size, r2, a4, c4, sy, rfl, rfl, hg0_, x9, R2.out, F2.out, S2.out, MF2.out, LN2.out, KQ.out⟩
      exact AllReadyL.nil
     refine AllReadyL.cons (o := _) (by (simp only [List.getElem?_toArray]; rfl)) (fun K hK => ?_) ?_
     ·
      skip
      have hgn := Lib.hid (show ∀ g', rowBlk a2 c2 = some g' → g' ≠ V2_2.heap.size from fun g' hg' => Nat.ne_of_lt (RT.out.blk hg').2)
      go_simp
      obtain ⟨V2_3, hw_, sw_, hv_, kw_⟩ := blocks1 V2_2 (.cells #[.int .i64 0, .int .i64 0, .bool false, .int .i64 0, .slice none 0 0, .slice none 0 0, .slice none 0 0] 78)
      rw [← hw_]
      clear hw_
      have hgl_ : V2_2.heap.size < V2_3.heap.size := by omega
      have hg0_ : V2.heap.size ≤ V2_2.heap.size := Nat.le_trans hBW hS.2.size
      have hgX := Lib.hid (show BlkIs V2_2.heap.size #[.int .i64 0, .int .i64 0, .bool false, .int .i64 0, .slice none 0 0, .slice none 0 0, .slice none 0 0] 78 V2_3 from hv_)
      clear hv_ sw_
      have hRK : Below V2.heap.size V2 V2_3 := hS.2.trans (kw_.mono (Nat.le_trans hBW hS.2.size))
      clear hS
      have hS := KeptB.of hRK
      clear hRK
      replace HT := Lib.hid (HT.out.below kw_)
      replace RT := Lib.hid (RT.out.below kw_)
      clear kw_
      refine hK.out _ _ (fun _ => hS) ?_
      clear hK K
      try simp only [Act.put, List.setIfInBounds_toArray, List.set]
      refine wpAnyL_ready (rs := [6]) (by kernel_rfl) (by simp) ?_
      refine AllReadyL.cons (o := _) (by (simp only [List.getElem?_toArray]; rfl)) (fun K hK => ?_) AllReadyL.nil
      go_simp
      obtain ⟨V2_4, hw_, sw_, hv_, kw_⟩ := blocks1 V2_3 (.cells #[.int .i64 m.k, .int .i64 m.f, .int .i64 m.v, .int .i64 m.s, .int .i64 m.r.c, .int .i64 m.r.n, .int .i64 m.r.o, .int .i64 m.r.x, .int .i64 m.r.y, .slice a1 m.cl.length c1, .slice b1 m.vs.length d1] 34)
      rw [← hw_]
      clear hw_ sw_
      have hRK : Below V2.heap.size V2 V2_4 := hS.2.trans (kw_.mono (Nat.le_trans hBW hS.2.size))
      clear hS
      have hS := KeptB.of hRK
      clear hRK
      replace HT := Lib.hid (HT.out.below kw_)
      replace RT := Lib.hid (RT.out.below kw_)
      replace hgX := Lib.hid (hgX.out.below kw_)
      clear kw_
      have RV := Lib.hid (show RowsAt V2_4 (some ⟨V2_3.heap.size, 0, none⟩) 11 Mg.cs [m] from rows_of_block (R := Mg.cs) (zs := [m]) eleven_len (by rw [flat_m MV.out.1 MV.out.2]; exact hv_))
      clear hv_
      refine hK.out _ _ (fun _ => hS) ?_
      clear hK K
      try simp only [Act.put, List.setIfInBounds_toArray, List.set]
      refine wpAnyL_ready (rs := [7]) (by kernel_rfl) (by simp) ?_
      refine AllReadyL.cons (o := _) (by (simp only [List.getElem?_toArray]; rfl)) (fun K hK => ?_) AllReadyL.nil
      refine step_append_elm (by rfl) (.tmp 29) (.tmp 31) (by rfl) (ms.length + 1) elmMg (by rfl) (by rfl) RT.out (fun z hz => by rw [List.mem_singleton.1 hz]; exact mg_one (MO.out.below hS.2).out) RV.out (by rfl) (by rfl) (by rfl) (by simp only [maxLen]; omega) (by omega) (Nat.le_trans hBW hS.2.size) ?_
      intro a3 c3 V2_5 q_
      have hrb_ : ∀ g, rowBlk _ _ = some g → V2.heap.size ≤ g := fun g hg => (RT.out.blk hg).1
      have hRK : Below V2.heap.size V2 V2_5 := hS.2.trans (q_.below (B' := V2.heap.size) (Nat.le_trans hBW hS.2.size) hrb_)
      clear hS
      have hS := KeptB.of hRK
      clear hRK
      have RT2 := Lib.hid (q_.row)
      replace hgX := Lib.hid (BlkIs.grown hgX.out q_.grown (fun g' hg' => hgn.out g' hg'))
      clear q_ hrb_
      refine hK.out _ _ (fun _ => hS) ?_
      clear hK K
      try simp only [Act.put, List.setIfInBounds_toArray, List.set]
      refine wpAnyL_ready (rs := [8]) (by kernel_rfl) (by simp) ?_
      refine AllReadyL.cons (o := _) (by (simp only [List.getElem?_toArray]; rfl)) (fun K hK => ?_) AllReadyL.nil
      have hgl_ := hgX.out.lt
      have IS := Lib.hid (show IsMs V2_5 (.slice a3 (ms.length + 1) c3) (ms ++ [m]) from ⟨by
       have h := RT2.out.sl eleven_len
       rw [List.length_append] at h
       exact h, fun z hz => (List.mem_append.1 hz).elim (fun h' => (HMSX.out _ (KW.out.trans (hS.2.mono KW.out.size))).2 z h') (fun h' => by rw [List.mem_singleton.1 h']; exact (MO.out.below hS.2).out)⟩)
      have MSF := Lib.hid (fit_snoc HMSF.out HMF.out)
      go_simp
      refine (l5Turned_c (Bx X1 V2.heap.size V2_5.heap.size) T D r1 _ _ m (ms ++ [m]) V2_5 (R1.out.box hS.2 _) F1.out (isMg_sl MV.out.1 MV.out.2 (MO.out.below hS.2).out) HMF.out IS.out MSF.out (Bx.lt (fun b hb => Nat.lt_of_lt_of_le (hlt b hb) hs) hS.2.size) hT).mono ?_
      rintro e V2_6 ⟨r2, a4, c4, sy, rfl, hr2, hf2, hsy2, hmf2, hln2, kw_⟩
      have hRK : Below V2.heap.size V2 V2_6 := hS.2.trans (kw_.mono (Nat.le_trans hBW hS.2.size))
      clear hS
      have hS := KeptB.of hRK
      clear hRK
      replace RT2 := Lib.hid (RT2.out.below kw_)
      replace hgX := Lib.hid (hgX.out.below kw_)
      clear kw_
      have R2 := Lib.hid hr2
      have F2 := Lib.hid hf2
      have S2 := Lib.hid hsy2
      have MF2 := Lib.hid hmf2
      have LN2 := Lib.hid hln2
      clear hr2 hf2 hsy2 hmf2 hln2 IS MSF
      refine hK.out _ _ (fun _ => hS) ?_
      clear hK K
      try simp only [Act.put, List.setIfInBounds_toArray, List.set]
      refine wpAnyL_take (i := 9) (oi := _) (v := ?_) (by (simp only [List.getElem?_toArray]; rfl)) (by kernel_rfl) (by kernel_rfl) (by kernel_rfl) (by kernel_rfl) (by exact fun _ _ _ h => h) (Or.inl ⟨by rfl, ?_⟩) (by assumption) ?_
      rotate_left
      ·
       intro wS hSw
       go_simp
       all_goals first | with_reducible rfl | rw [if_neg (by omega)]
      simp only [Act.put, List.setIfInBounds_toArray, List.set]
      refine wpAnyL_take (i := 10) (oi := _) (v := ?_) (by (simp only [List.getElem?_toArray]; rfl)) (by kernel_rfl) (by kernel_rfl) (by kernel_rfl) (by kernel_rfl) (by exact fun _ _ _ h => h) (Or.inl ⟨by rfl, ?_⟩) (by assumption) ?_
      rotate_left
      ·
       intro wS hSw
       go_simp
       all_goals first | with_reducible rfl | rw [if_neg (by omega)]
      simp only [Act.put, List.setIfInBounds_toArray, List.set]
      refine wpAnyL_take (i := 11) (oi := _) (v := ?_) (by (simp only [List.getElem?_toArray]; rfl)) (by kernel_rfl) (by kernel_rfl) (by kernel_rfl) (by kernel_rfl) (by exact fun _ _ _ h => h) (Or.inl ⟨by rfl, ?_⟩) (by assumption) ?_
      rotate_left
      ·
       intro wS hSw
       go_simp
       all_goals first | with_reducible rfl | rw [if_neg (by omega)]
      simp only [Act.put, List.setIfInBounds_toArray, List.set]
      refine wpAnyL_ready (rs := [13]) (by kernel_rfl) (by simp) ?_
      refine AllReadyL.cons (o := _) (by (simp only [List.getElem?_toArray]; rfl)) (fun K hK => ?_) AllReadyL.nil
      have zq_ := hgX.out
      unfold BlkIs at zq_
      have cq_ := cell_of_block zq_
      have fq_ := unfrozen_of_block zq_
      have lq_ := lt_of_block zq_
      go_simp
      obtain ⟨Q1, hV_, sV_, x9, oV_, kV_⟩ := stored7 V2_6 (V2_2.heap.size) _ _ _ _ _ _ _ (.int .i64 r2.me) (.int .i64 r2.view) (.bool r2.live) (.int .i64 r2.nx) (.slice r2.ta r2.tk.length r2.tc) (.slice r2.ha r2.hd.length r2.hc) (.slice r2.da r2.dn.length r2.dc) zq_
      rw [← hV_]
      clear hV_
      replace R2 := Lib.hid (Rob.weak (X' := X1) (R2.out.stored sV_ oV_ (by first | exact .inr ⟨hg0_, hgl_⟩ | exact .inr ⟨Nat.le_refl _, hgl_⟩)) (by first | exact fun b hb => .inl hb | exact fun b hb => .inl (.inl hb)))
      replace S2 := Lib.hid (Rob.weak (X' := X1) (S2.out.stored sV_ oV_ (by first | exact .inr ⟨hg0_, hgl_⟩ | exact .inr ⟨Nat.le_refl _, hgl_⟩)) (by first | exact fun b hb => .inl hb | exact fun b hb => .inl (.inl hb)))
      have KQ := Lib.hid (hS.2.trans (kV_.mono hg0_))
      replace hS := KeptB.of KQ.out
      clear zq_ cq_ fq_ lq_ kV_ oV_ sV_ hgX
      refine hK.out _ _ (fun _ => hS) ?_
      clear hK K
      try simp only [Act.put, List.setIfInBounds_toArray, List.set]
      refine wpAnyL_take (i := 14) (oi := _) (v := ?_) (by (simp only [List.getElem?_toArray]; rfl)) (by kernel_rfl) (by kernel_rfl) (by kernel_rfl) (by kernel_rfl) (by exact fun _ _ _ h => h) (Or.inl ⟨by rfl, ?_⟩) (by assumption) ?_
      rotate_left
      ·
       intro wS hSw
       go_simp
       all_goals first | with_reducible rfl | rw [if_neg (by omega)]
      simp only [Act.put, List.setIfInBounds_toArray, List.set]
      refine wpAnyL_done (by kernel_rfl) ?_ _
      clear hS
      clear cx fx lx cl fl ll
      go_wp2_with fail
      go_meet
      exact ⟨V2_2.heap.size, r2, a4, c4, sy, rfl, rfl, hg0_, x9, R2.out, F2.out, S2.out, MF2.out, LN2.out, KQ.out⟩
     exact AllReadyL.nil
    refine AllReadyL.cons (o := _) (by (simp only [List.getElem?_toArray]; rfl)) (fun K hK => ?_) ?_
    ·
     skip
     go_simp
     obtain ⟨V2_2, hw_, sw_, hv_, kw_⟩ := blocks1 V2_1 (.cells #[.int .i64 m.k, .int .i64 m.f, .int .i64 m.v, .int .i64 m.s, .int .i64 m.r.c, .int .i64 m.r.n, .int .i64 m.r.o, .int .i64 m.r.x, .int .i64 m.r.y, .slice a1 m.cl.length c1, .slice b1 m.vs.length d1] 34)
     rw [← hw_]
     clear hw_ sw_
     have hRK : Below V2.heap.size V2 V2_2 := hS.2.trans (kw_.mono (Nat.le_trans hBW hS.2.size))
     clear hS
     have hS := KeptB.of hRK
     clear hRK
     replace HT := Lib.hid (HT.out.below kw_)
     clear kw_
     have RV := Lib.hid (show RowsAt V2_2 (some ⟨V2_1.heap.size, 0, none⟩) 11 Mg.cs [m] from rows_of_block (R := Mg.cs) (zs := [m]) eleven_len (by rw [flat_m MV.out.1 MV.out.2]; exact hv_))
     clear hv_
     refine hK.out _ _ (fun _ => hS) ?_
     clear hK K
     try simp only [Act.put, List.setIfInBounds_toArray, List.set]
     refine wpAnyL_ready (rs := [4, 12]) (by kernel_rfl) (by simp) ?_
     refine AllReadyL.cons (o := _) (by (simp only [List.getElem?_toArray]; rfl)) (fun K hK => ?_) ?_
     ·
      skip
      refine step_append_newM V2_2.heap.size (by rfl) (.tmp 27) (.tmp 28) (by rfl) elmMg (by rfl) (by rfl) (fun z hz => mg_one ((HMSX.out _ (KW.out.trans (hS.2.mono KW.out.size))).2 z hz)) (HT.out) (by rfl) (by simp only [maxLen]; omega) (by omega) (Nat.le_refl _) ?_
      intro a2 c2 V2_3 q_
      have hq_ : V2.heap.size ≤ V2_2.heap.size := Nat.le_trans hBW hS.2.size
      have kw_ := q_.below
      have hRK : Below V2.heap.size V2 V2_3 := hS.2.trans (kw_.mono (Nat.le_trans hBW hS.2.size))
      clear hS
      have hS := KeptB.of hRK
      clear hRK
      replace HT := Lib.hid (HT.out.below kw_)
      replace RV := Lib.hid (RV.out.below kw_)
      clear kw_
      have RT := Lib.hid (q_.row.low hq_)
      clear q_ hq_
      refine hK.out _ _ (fun _ => hS) ?_
      clear hK K
      try simp only [Act.put, List.setIfInBounds_toArray, List.set]
      refine wpAnyL_ready (rs := [7, 12]) (by kernel_rfl) (by simp) ?_
      refine AllReadyL.cons (o := _) (by (simp only [List.getElem?_toArray]; rfl)) (fun K hK => ?_) ?_
      ·
       skip
       refine step_append_elm (by rfl) (.tmp 29) (.tmp 31) (by rfl) (ms.length + 1) elmMg (by rfl) (by rfl) RT.out (fun z hz => by rw [List.mem_singleton.1 hz]; exact mg_one (MO.out.below hS.2).out) RV.out (by rfl) (by rfl) (by rfl) (by simp only [maxLen]; omega) (by omega) (Nat.le_trans hBW hS.2.size) ?_
       intro a3 c3 V2_4 q_
       have hrb_ : ∀ g, rowBlk _ _ = some g → V2.heap.size ≤ g := fun g hg => (RT.out.blk hg).1
       have hRK : Below V2.heap.size V2 V2_4 := hS.2.trans (q_.below (B' := V2.heap.size) (Nat.le_trans hBW hS.2.size) hrb_)
       clear hS
       have hS := KeptB.of hRK
       clear hRK
       have RT2 := Lib.hid (q_.row)
       clear q_ hrb_
       refine hK.out _ _ (fun _ => hS) ?_
       clear hK K
       try simp only [Act.put, List.setIfInBounds_toArray, List.set]
       refine wpAnyL_ready (rs := [8, 12]) (by kernel_rfl) (by simp) ?_
       refine AllReadyL.cons (o := _) (by (simp only [List.getElem?_toArray]; rfl)) (fun K hK => ?_) ?_
       ·
        skip
        have IS := Lib.hid (show IsMs V2_4 (.slice a3 (ms.length + 1) c3) (ms ++ [m]) from ⟨by
         have h := RT2.out.sl eleven_len
         rw [List.length_append] at h
         exact h, fun z hz => (List.mem_append.1 hz).elim (fun h' => (HMSX.out _ (KW.out.trans (hS.2.mono KW.out.size))).2 z h') (fun h' => by rw [List.mem_singleton.1 h']; exact (MO.out.below hS.2).out)⟩)
        have MSF := Lib.hid (fit_snoc HMSF.out HMF.out)
        go_simp
        refine (l5Turned_c (Bx X1 V2.heap.size V2_4.heap.size) T D r1 _ _ m (ms ++ [m]) V2_4 (R1.out.box hS.2 _) F1.out (isMg_sl MV.out.1 MV.out.2 (MO.out.below hS.2).out) HMF.out IS.out MSF.out (Bx.lt (fun b hb => Nat.lt_of_lt_of_le (hlt b hb) hs) hS.2.size) hT).mono ?_
        rintro e V2_5 ⟨r2, a4, c4, sy, rfl, hr2, hf2, hsy2, hmf2, hln2, kw_⟩
        have hRK : Below V2.heap.size V2 V2_5 := hS.2.trans (kw_.mono (Nat.le_trans hBW hS.2.size))
        clear hS
        have hS := KeptB.of hRK
        clear hRK
        replace RT2 := Lib.hid (RT2.out.below kw_)
        clear kw_
        have R2 := Lib.hid hr2
        have F2 := Lib.hid hf2
        have S2 := Lib.hid hsy2
        have MF2 := Lib.hid hmf2
        have LN2 := Lib.hid hln2
        clear hr2 hf2 hsy2 hmf2 hln2 IS MSF
        refine hK.out _ _ (fun _ => hS) ?_
        clear hK K
        try simp only [Act.put, List.setIfInBounds_toArray, List.set]
        refine wpAnyL_take (i := 9) (oi := _) (v := ?_) (by (simp only [List.getElem?_toArray]; rfl)) (by kernel_rfl) (by kernel_rfl) (by kernel_rfl) (by kernel_rfl) (by exact fun _ _ _ h => h) (Or.inl ⟨by rfl, ?_⟩) (by assumption) ?_
        rotate_left
        ·
         intro wS hSw
         go_simp
         all_goals first | with_reducible rfl | rw [if_neg (by omega)]
        simp only [Act.put, List.setIfInBounds_toArray, List.set]
        refine wpAnyL_take (i := 10) (oi := _) (v := ?_) (by (simp only [List.getElem?_toArray]; rfl)) (by kernel_rfl) (by kernel_rfl) (by kernel_rfl) (by kernel_rfl) (by exact fun _ _ _ h => h) (Or.inl ⟨by rfl, ?_⟩) (by assumption) ?_
        rotate_left
        ·
         intro wS hSw
         go_simp
         all_goals first | with_reducible rfl | rw [if_neg (by omega)]
        simp only [Act.put, List.setIfInBounds_toArray, List.set]
        refine wpAnyL_take (i := 11) (oi := _) (v := ?_) (by (simp only [List.getElem?_toArray]; rfl)) (by kernel_rfl) (by kernel_rfl) (by kernel_rfl) (by kernel_rfl) (by exact fun _ _ _ h => h) (Or.inl ⟨by rfl, ?_⟩) (by assumption) ?_
        rotate_left
        ·
         intro wS hSw
         go_simp
         all_goals first | with_reducible rfl | rw [if_neg (by omega)]
        simp only [Act.put, List.setIfInBounds_toArray, List.set]
        refine wpAnyL_ready (rs := [12]) (by kernel_rfl) (by simp) ?_
        refine AllReadyL.cons (o := _) (by (simp only [List.getElem?_toArray]; rfl)) (fun K hK => ?_) AllReadyL.nil
        go_simp
        obtain ⟨V2_6, hw_, sw_, hv_, kw_⟩ := blocks1 V2_5 (.cells #[.int .i64 0, .int .i64 0, .bool false, .int .i64 0, .slice none 0 0, .slice none 0 0, .slice none 0 0] 78)
        rw [← hw_]
        clear hw_
        have hgl_ : V2_5.heap.size < V2_6.heap.size := by omega
        have hg0_ : V2.heap.size ≤ V2_5.heap.size := Nat.le_trans hBW hS.2.size
        have hgX := Lib.hid (show BlkIs V2_5.heap.size #[.int .i64 0, .int .i64 0, .bool false, .int .i64 0, .slice none 0 0, .slice none 0 0, .slice none 0 0] 78 V2_6 from hv_)
        clear hv_ sw_
        replace R2 := Lib.hid (R2.out.box kw_ V2_6.heap.size)
        replace S2 := Lib.hid (S2.out.box kw_ V2_6.heap.size)
        have hRK : Below V2.heap.size V2 V2_6 := hS.2.trans (kw_.mono (Nat.le_trans hBW hS.2.size))
        clear hS
        have hS := KeptB.of hRK
        clear hRK
        replace RT2 := Lib.hid (RT2.out.below kw_)
        clear kw_
        refine hK.out _ _ (fun _ => hS) ?_
        clear hK K
        try simp only [Act.put, List.setIfInBounds_toArray, List.set]
        refine wpAnyL_ready (rs := [13]) (by kernel_rfl) (by simp) ?_
        refine AllReadyL.cons (o := _) (by (simp only [List.getElem?_toArray]; rfl)) (fun K hK => ?_) AllReadyL.nil
        have zq_ := hgX.out
        unfold BlkIs at zq_
        have cq_ := cell_of_block zq_
        have fq_ := unfrozen_of_block zq_
        have lq_ := lt_of_block zq_
        go_simp
        obtain ⟨Q1, hV_, sV_, x9, oV_, kV_⟩ := stored7 V2_6 (V2_5.heap.size) _ _ _ _ _ _ _ (.int .i64 r2.me) (.int .i64 r2.view) (.bool r2.live) (.int .i64 r2.nx) (.slice r2.ta r2.tk.length r2.tc) (.slice r2.ha r2.hd.length r2.hc) (.slice r2.da r2.dn.length r2.dc) zq_
        rw [← hV_]
        clear hV_
        replace R2 := Lib.hid (Rob.weak (X' := X1) (R2.out.stored sV_ oV_ (by first | exact .inr ⟨hg0_, hgl_⟩ | exact .inr ⟨Nat.le_refl _, hgl_⟩)) (by first | exact fun b hb => .inl hb | exact fun b hb => .inl (.inl hb)))
        replace S2 := Lib.hid (Rob.weak (X' := X1) (S2.out.stored sV_ oV_ (by first | exact .inr ⟨hg0_, hgl_⟩ | exact .inr ⟨Nat.le_refl _, hgl_⟩)) (by first | exact fun b hb => .inl hb | exact fun b hb => .inl (.inl hb)))
        have KQ := Lib.hid (hS.2.trans (kV_.mono hg0_))
        replace hS := KeptB.of KQ.out
        clear zq_ cq_ fq_ lq_ kV_ oV_ sV_ hgX
        refine hK.out _ _ (fun _ => hS) ?_
        clear hK K
        try simp only [Act.put, List.setIfInBounds_toArray, List.set]
        refine wpAnyL_take (i := 14) (oi := _) (v := ?_) (by (simp only [List.getElem?_toArray]; rfl)) (by kernel_rfl) (by kernel_rfl) (by kernel_rfl) (by kernel_rfl) (by exact fun _ _ _ h => h) (Or.inl ⟨by rfl, ?_⟩) (by assumption) ?_
        rotate_left
        ·
         intro wS hSw
         go_simp
         all_goals first | with_reducible rfl | rw [if_neg (by omega)]
        simp only [Act.put, List.setIfInBounds_toArray, List.set]
        refine wpAnyL_done (by kernel_rfl) ?_ _
        clear hS
        clear cx fx lx cl fl ll
        go_wp2_with fail
        go_meet
        exact ⟨V2_5.heap.size, r2, a4, c4, sy, rfl, rfl, hg0_, x9, R2.out, F2.out, S2.out, MF2.out, LN2.out, KQ.out⟩
       refine AllReadyL.cons (o := _) (by (simp only [List.getElem?_toArray]; rfl)) (fun K hK => ?_) ?_
       ·
        skip
        go_simp
        obtain ⟨V2_5, hw_, sw_, hv_, kw_⟩ := blocks1 V2_4 (.cells #[.int .i64 0, .int .i64 0, .bool false, .int .i64 0, .slice none 0 0, .slice none 0 0, .slice none 0 0] 78)
        rw [← hw_]
        clear hw_
        have hgl_ : V2_4.heap.size < V2_5.heap.size := by omega
        have hg0_ : V2.heap.size ≤ V2_4.heap.size := Nat.le_trans hBW hS.2.size
        have hgX := Lib.hid (show BlkIs V2_4.heap.size #[.int .i64 0, .int .i64 0, .bool false, .int .i64 0, .slice none 0 0, .slice none 0 0, .slice none 0 0] 78 V2_5 from hv_)
        clear hv_ sw_
        have hRK : Below V2.heap.size V2 V2_5 := hS.2.trans (kw_.mono (Nat.le_trans hBW hS.2.size))
        clear hS
        have hS := KeptB.of hRK
        clear hRK
        replace RT2 := Lib.hid (RT2.out.below kw_)
        clear kw_
        refine hK.out _ _ (fun _ => hS) ?_
        clear hK K
        try simp only [Act.put, List.setIfInBounds_toArray, List.set]
        refine wpAnyL_ready (rs := [8]) (by kernel_rfl) (by simp) ?_
        refine AllReadyL.cons (o := _) (by (simp only [List.getElem?_toArray]; rfl)) (fun K hK => ?_) AllReadyL.nil
        have hgl_ := hgX.out.lt
        have IS := Lib.hid (show IsMs V2_5 (.slice a3 (ms.length + 1) c3) (ms ++ [m]) from ⟨by
         have h := RT2.out.sl eleven_len
         rw [List.length_append] at h
         exact h, fun z hz => (List.mem_append.1 hz).elim (fun h' => (HMSX.out _ (KW.out.trans (hS.2.mono KW.out.size))).2 z h') (fun h' => by rw [List.mem_singleton.1 h']; exact (MO.out.below hS.2).out)⟩)
        have MSF := Lib.hid (fit_snoc HMSF.out HMF.out)
        go_simp
        refine (l5Turned_c (Bx X1 V2.heap.size V2_5.heap.size) T D r1 _ _ m (ms ++ [m]) V2_5 (R1.out.box hS.2 _) F1.out (isMg_sl MV.out.1 MV.out.2 (MO.out.below hS.2).out) HMF.out IS.out MSF.out (Bx.lt (fun b hb => Nat.lt_of_lt_of_le (hlt b hb) hs) hS.2.size) hT).mono ?_
        rintro e V2_6 ⟨r2, a4, c4, sy, rfl, hr2, hf2, hsy2, hmf2, hln2, kw_⟩
        have hRK : Below V2.heap.size V2 V2_6 := hS.2.trans (kw_.mono (Nat.le_trans hBW hS.2.size))
        clear hS
        have hS := KeptB.of hRK
        clear hRK
        replace RT2 := Lib.hid (RT2.out.below kw_)
        replace hgX := Lib.hid (hgX.out.below kw_)
        clear kw_
        have R2 := Lib.hid hr2
        have F2 := Lib.hid hf2
        have S2 := Lib.hid hsy2
        have MF2 := Lib.hid hmf2
        have LN2 := Lib.hid hln2
        clear hr2 hf2 hsy2 hmf2 hln2 IS MSF
        refine hK.out _ _ (fun _ => hS) ?_
        clear hK K
        try simp only [Act.put, List.setIfInBounds_toArray, List.set]
        refine wpAnyL_take (i := 9) (oi := _) (v := ?_) (by (simp only [List.getElem?_toArray]; rfl)) (by kernel_rfl) (by kernel_rfl) (by kernel_rfl) (by kernel_rfl) (by exact fun _ _ _ h => h) (Or.inl ⟨by rfl, ?_⟩) (by assumption) ?_
        rotate_left
        ·
         intro wS hSw
         go_simp
         all_goals first | with_reducible rfl | rw [if_neg (by omega)]
        simp only [Act.put, List.setIfInBounds_toArray, List.set]
        refine wpAnyL_take (i := 10) (oi := _) (v := ?_) (by (simp only [List.getElem?_toArray]; rfl)) (by kernel_rfl) (by kernel_rfl) (by kernel_rfl) (by kernel_rfl) (by exact fun _ _ _ h => h) (Or.inl ⟨by rfl, ?_⟩) (by assumption) ?_
        rotate_left
        ·
         intro wS hSw
         go_simp
         all_goals first | with_reducible rfl | rw [if_neg (by omega)]
        simp only [Act.put, List.setIfInBounds_toArray, List.set]
        refine wpAnyL_take (i := 11) (oi := _) (v := ?_) (by (simp only [List.getElem?_toArray]; rfl)) (by kernel_rfl) (by kernel_rfl) (by kernel_rfl) (by kernel_rfl) (by exact fun _ _ _ h => h) (Or.inl ⟨by rfl, ?_⟩) (by assumption) ?_
        rotate_left
        ·
         intro wS hSw
         go_simp
         all_goals first | with_reducible rfl | rw [if_neg (by omega)]
        simp only [Act.put, List.setIfInBounds_toArray, List.set]
        refine wpAnyL_ready (rs := [13]) (by kernel_rfl) (by simp) ?_
        refine AllReadyL.cons (o := _) (by (simp only [List.getElem?_toArray]; rfl)) (fun K hK => ?_) AllReadyL.nil
        have zq_ := hgX.out
        unfold BlkIs at zq_
        have cq_ := cell_of_block zq_
        have fq_ := unfrozen_of_block zq_
        have lq_ := lt_of_block zq_
        go_simp
        obtain ⟨Q1, hV_, sV_, x9, oV_, kV_⟩ := stored7 V2_6 (V2_4.heap.size) _ _ _ _ _ _ _ (.int .i64 r2.me) (.int .i64 r2.view) (.bool r2.live) (.int .i64 r2.nx) (.slice r2.ta r2.tk.length r2.tc) (.slice r2.ha r2.hd.length r2.hc) (.slice r2.da r2.dn.length r2.dc) zq_
        rw [← hV_]
        clear hV_
        replace R2 := Lib.hid (Rob.weak (X' := X1) (R2.out.stored sV_ oV_ (by first | exact .inr ⟨hg0_, hgl_⟩ | exact .inr ⟨Nat.le_refl _, hgl_⟩)) (by first | exact fun b hb => .inl hb | exact fun b hb => .inl (.inl hb)))
        replace S2 := Lib.hid (Rob.weak (X' := X1) (S2.out.stored sV_ oV_ (by first | exact .inr ⟨hg0_, hgl_⟩ | exact .inr ⟨Nat.le_refl _, hgl_⟩)) (by first | exact fun b hb => .inl hb | exact fun b hb => .inl (.inl hb)))
        have KQ := Lib.hid (hS.2.trans (kV_.mono hg0_))
        replace hS := KeptB.of KQ.out
        clear zq_ cq_ fq_ lq_ kV_ oV_ sV_ hgX
        refine hK.out _ _ (fun _ => hS) ?_
        clear hK K
        try simp only [Act.put, List.setIfInBounds_toArray, List.set]
        refine wpAnyL_take (i := 14) (oi := _) (v := ?_) (by (simp only [List.getElem?_toArray]; rfl)) (by kernel_rfl) (by kernel_rfl) (by kernel_rfl) (by kernel_rfl) (by exact fun _ _ _ h => h) (Or.inl ⟨by rfl, ?_⟩) (by assumption) ?_
        rotate_left
        ·
         intro wS hSw
         go_simp
         all_goals first | with_reducible rfl | rw [if_neg (by omega)]
        simp only [Act.put, List.setIfInBounds_toArray, List.set]
        refine wpAnyL_done (by kernel_rfl) ?_ _
        clear hS
        clear cx fx lx cl fl ll
        go_wp2_with fail
        go_meet
        exact ⟨V2_4.heap.size, r2, a4, c4, sy, rfl, rfl, hg0_, x9, R2.out, F2.out, S2.out, MF2.out, LN2.out, KQ.out⟩
       exact AllReadyL.nil
      refine AllReadyL.cons (o := _) (by (simp only [List.getElem?_toArray]; rfl)) (fun K hK => ?_) ?_
      ·
       skip
       have hgn := Lib.hid (show ∀ g', rowBlk a2 c2 = some g' → g' ≠ V2_3.heap.size from fun g' hg' => Nat.ne_of_lt (RT.out.blk hg').2)
       go_simp
       obtain ⟨V2_4, hw_, sw_, hv_, kw_⟩ := blocks1 V2_3 (.cells #[.int .i64 0, .int .i64 0, .bool false, .int .i64 0, .slice none 0 0, .slice none 0 0, .slice none 0 0] 78)
       rw [← hw_]
       clear hw_
       have hgl_ : V2_3.heap.size < V2_4.heap.size := by omega
       have hg0_ : V2.heap.size ≤ V2_3.heap.size := Nat.le_trans hBW hS.2.size
       have hgX := Lib.hid (show BlkIs V2_3.heap.size #[.int .i64 0, .int .i64 0, .bool false, .int .i64 0, .slice none 0 0, .slice none 0 0, .slice none 0 0] 78 V2_4 from hv_)
       clear hv_ sw_
       have hRK : Below V2.heap.size V2 V2_4 := hS.2.trans (kw_.mono (Nat.le_trans hBW hS.2.size))
       clear hS
       have hS := KeptB.of hRK
       clear hRK
       replace HT := Lib.hid (HT.out.below kw_)
       replace RV := Lib.hid (RV.out.below kw_)
       replace RT := Lib.hid (RT.out.below kw_)
       clear kw_
       refine hK.out _ _ (fun _ => hS) ?_
       clear hK K
       try simp only [Act.put, List.setIfInBounds_toArray, List.set]
       refine wpAnyL_ready (rs := [7]) (by kernel_rfl) (by simp) ?_
       refine AllReadyL.cons (o := _) (by (simp only [List.getElem?_toArray]; rfl)) (fun K hK => ?_) AllReadyL.nil
       refine step_append_elm (by rfl) (.tmp 29) (.tmp 31) (by rfl) (ms.length + 1) elmMg (by rfl) (by rfl) RT.out (fun z hz => by rw [List.mem_singleton.1 hz]; exact mg_one (MO.out.below hS.2).out) RV.out (by rfl) (by rfl) (by rfl) (by simp only [maxLen]; omega) (by omega) (Nat.le_trans hBW hS.2.size) ?_
       intro a3 c3 V2_5 q_
       have hrb_ : ∀ g, rowBlk _ _ = some g → V2.heap.size ≤ g := fun g hg => (RT.out.blk hg).1
       have hRK : Below V2.heap.size V2 V2_5 := hS.2.trans (q_.below (B' := V2.heap.size) (Nat.le_trans hBW hS.2.size) hrb_)
       clear hS
       have hS := KeptB.of hRK
       clear hRK
       have RT2 := Lib.hid (q_.row)
       replace hgX := Lib.hid (BlkIs.grown hgX.out q_.grown (fun g' hg' => hgn.out g' hg'))
       clear q_ hrb_
       refine hK.out _ _ (fun _ => hS) ?_
       clear hK K
       try simp only [Act.put, List.setIfInBounds_toArray, List.set]
       refine wpAnyL_ready (rs := [8]) (by kernel_rfl) (by simp) ?_
       refine AllReadyL.cons (o := _) (by (simp only [List.getElem?_toArray]; rfl)) (fun K hK => ?_) AllReadyL.nil
       have hgl_ := hgX.out.lt
       have IS := Lib.hid (show IsMs V2_5 (.slice a3 (ms.length + 1) c3) (ms ++ [m]) from ⟨by
        have h := RT2.out.sl eleven_len
        rw [List.length_append] at h
        exact h, fun z hz => (List.mem_append.1 hz).elim (fun h' => (HMSX.out _ (KW.out.trans (hS.2.mono KW.out.size))).2 z h') (fun h' => by rw [List.mem_singleton.1 h']; exact (MO.out.below hS.2).out)⟩)
       have MSF := Lib.hid (fit_snoc HMSF.out HMF.out)
       go_simp
       refine (l5Turned_c (Bx X1 V2.heap.size V2_5.heap.size) T D r1 _ _ m (ms ++ [m]) V2_5 (R1.out.box hS.2 _) F1.out (isMg_sl MV.out.1 MV.out.2 (MO.out.below hS.2).out) HMF.out IS.out MSF.out (Bx.lt (fun b hb => Nat.lt_of_lt_of_le (hlt b hb) hs) hS.2.size) hT).mono ?_
       rintro e V2_6 ⟨r2, a4, c4, sy, rfl, hr2, hf2, hsy2, hmf2, hln2, kw_⟩
       have hRK : Below V2.heap.size V2 V2_6 := hS.2.trans (kw_.mono (Nat.le_trans hBW hS.2.size))
       clear hS
       have hS := KeptB.of hRK
       clear hRK
       replace RT2 := Lib.hid (RT2.out.below kw_)
       replace hgX := Lib.hid (hgX.out.below kw_)
       clear kw_
       have R2 := Lib.hid hr2
       have F2 := Lib.hid hf2
       have S2 := Lib.hid hsy2
       have MF2 := Lib.hid hmf2
       have LN2 := Lib.hid hln2
       clear hr2 hf2 hsy2 hmf2 hln2 IS MSF
       refine hK.out _ _ (fun _ => hS) ?_
       clear hK K
       try simp only [Act.put, List.setIfInBounds_toArray, List.set]
       refine wpAnyL_take (i := 9) (oi := _) (v := ?_) (by (simp only [List.getElem?_toArray]; rfl)) (by kernel_rfl) (by kernel_rfl) (by kernel_rfl) (by kernel_rfl) (by exact fun _ _ _ h => h) (Or.inl ⟨by rfl, ?_⟩) (by assumption) ?_
       rotate_left
       ·
        intro wS hSw
        go_simp
        all_goals first | with_reducible rfl | rw [if_neg (by omega)]
       simp only [Act.put, List.setIfInBounds_toArray, List.set]
       refine wpAnyL_take (i := 10) (oi := _) (v := ?_) (by (simp only [List.getElem?_toArray]; rfl)) (by kernel_rfl) (by kernel_rfl) (by kernel_rfl) (by kernel_rfl) (by exact fun _ _ _ h => h) (Or.inl ⟨by rfl, ?_⟩) (by assumption) ?_
       rotate_left
       ·
        intro wS hSw
        go_simp
        all_goals first | with_reducible rfl | rw [if_neg (by omega)]
       simp only [Act.put, List.setIfInBounds_toArray, List.set]
       refine wpAnyL_take (i := 11) (oi := _) (v := ?_) (by (simp only [List.getElem?_toArray]; rfl)) (by kernel_rfl) (by kernel_rfl) (by kernel_rfl) (by kernel_rfl) (by exact fun _ _ _ h => h) (Or.inl ⟨by rfl, ?_⟩) (by assumption) ?_
       rotate_left
       ·
        intro wS hSw
        go_simp
        all_goals first | with_reducible rfl | rw [if_neg (by omega)]
       simp only [Act.put, List.setIfInBounds_toArray, List.set]
       refine wpAnyL_ready (rs := [13]) (by kernel_rfl) (by simp) ?_
       refine AllReadyL.cons (o := _) (by (simp only [List.getElem?_toArray]; rfl)) (fun K hK => ?_) AllReadyL.nil
       have zq_ := hgX.out
       unfold BlkIs at zq_
       have cq_ := cell_of_block zq_
       have fq_ := unfrozen_of_block zq_
       have lq_ := lt_of_block zq_
       go_simp
       obtain ⟨Q1, hV_, sV_, x9, oV_, kV_⟩ := stored7 V2_6 (V2_3.heap.size) _ _ _ _ _ _ _ (.int .i64 r2.me) (.int .i64 r2.view) (.bool r2.live) (.int .i64 r2.nx) (.slice r2.ta r2.tk.length r2.tc) (.slice r2.ha r2.hd.length r2.hc) (.slice r2.da r2.dn.length r2.dc) zq_
       rw [← hV_]
       clear hV_
       replace R2 := Lib.hid (Rob.weak (X' := X1) (R2.out.stored sV_ oV_ (by first | exact .inr ⟨hg0_, hgl_⟩ | exact .inr ⟨Nat.le_refl _, hgl_⟩)) (by first | exact fun b hb => .inl hb | exact fun b hb => .inl (.inl hb)))
       replace S2 := Lib.hid (Rob.weak (X' := X1) (S2.out.stored sV_ oV_ (by first | exact .inr ⟨hg0_, hgl_⟩ | exact .inr ⟨Nat.le_refl _, hgl_⟩)) (by first | exact fun b hb => .inl hb | exact fun b hb => .inl (.inl hb)))
       have KQ := Lib.hid (hS.2.trans (kV_.mono hg0_))
       replace hS := KeptB.of KQ.out
       clear zq_ cq_ fq_ lq_ kV_ oV_ sV_ hgX
       refine hK.out _ _ (fun _ => hS) ?_
       clear hK K
       try simp only [Act.put, List.setIfInBounds_toArray, List.set]
       refine wpAnyL_take (i := 14) (oi := _) (v := ?_) (by (simp only [List.getElem?_toArray]; rfl)) (by kernel_rfl) (by kernel_rfl) (by kernel_rfl) (by kernel_rfl) (by exact fun _ _ _ h => h) (Or.inl ⟨by rfl, ?_⟩) (by assumption) ?_
       rotate_left
       ·
        intro wS hSw
        go_simp
        all_goals first | with_reducible rfl | rw [if_neg (by omega)]
       simp only [Act.put, List.setIfInBounds_toArray, List.set]
       refine wpAnyL_done (by kernel_rfl) ?_ _
       clear hS
       clear cx fx lx cl fl ll
       go_wp2_with fail
       go_meet
       exact ⟨V2_3.heap.size, r2, a4, c4, sy, rfl, rfl, hg0_, x9, R2.out, F2.out, S2.out, MF2.out, LN2.out, KQ.out⟩
      exact AllReadyL.nil
     refine AllReadyL.cons (o := _) (by (simp only [List.getElem?_toArray]; rfl)) (fun K hK => ?_) ?_
     ·
      skip
      go_simp
      obtain ⟨V2_3, hw_, sw_, hv_, kw_⟩ := blocks1 V2_2 (.cells #[.int .i64 0, .int .i64 0, .bool false, .int .i64 0, .slice none 0 0, .slice none 0 0, .slice none 0 0] 78)
      rw [← hw_]
      clear hw_
      have hgl_ : V2_2.heap.size < V2_3.heap.size := by omega
      have hg0_ : V2.heap.size ≤ V2_2.heap.size := Nat.le_trans hBW hS.2.size
      have hgX := Lib.hid (show BlkIs V2_2.heap.size #[.int .i64 0, .int .i64 0, .bool false, .int .i64 0, .slice none 0 0, .slice none 0 0, .slice none 0 0] 78 V2_3 from hv_)
      clear hv_ sw_
      have hRK : Below V2.heap.size V2 V2_3 := hS.2.trans (kw_.mono (Nat.le_trans hBW hS.2.size))
      clear hS
      have hS := KeptB.of hRK
      clear hRK
      replace HT := Lib.hid (HT.out.below kw_)
      replace RV := Lib.hid (RV.out.below kw_)
      clear kw_
      refine hK.out _ _ (fun _ => hS) ?_
      clear hK K
      try simp only [Act.put, List.setIfInBounds_toArray, List.set]
      refine wpAnyL_ready (rs := [4]) (by kernel_rfl) (by simp) ?_
      refine AllReadyL.cons (o := _) (by (simp only [List.getElem?_toArray]; rfl)) (fun K hK => ?_) AllReadyL.nil
      have hgq_ := hgX.out.lt
      refine step_append_newM V2_3.heap.size (by rfl) (.tmp 27) (.tmp 28) (by rfl) elmMg (by rfl) (by rfl) (fun z hz => mg_one ((HMSX.out _ (KW.out.trans (hS.2.mono KW.out.size))).2 z hz)) (HT.out) (by rfl) (by simp only [maxLen]; omega) (by omega) (Nat.le_refl _) ?_
      intro a2 c2 V2_4 q_
      have hq_ : V2.heap.size ≤ V2_3.heap.size := Nat.le_trans hBW hS.2.size
      have kw_ := q_.below
      have hRK : Below V2.heap.size V2 V2_4 := hS.2.trans (kw_.mono (Nat.le_trans hBW hS.2.size))
      clear hS
      have hS := KeptB.of hRK
      clear hRK
      replace HT := Lib.hid (HT.out.below kw_)
      replace RV := Lib.hid (RV.out.below kw_)
      replace hgX := Lib.hid (hgX.out.below kw_)
      clear kw_
      have RT := Lib.hid (q_.row.low hq_)
      have hgn := Lib.hid (show ∀ g', rowBlk a2 c2 = some g' → g' ≠ V2_2.heap.size from fun g' hg' => by have := q_.blk g' hg'; omega)
      clear q_ hq_
      refine hK.out _ _ (fun _ => hS) ?_
      clear hK K
      try simp only [Act.put, List.setIfInBounds_toArray, List.set]
      refine wpAnyL_ready (rs := [7]) (by kernel_rfl) (by simp) ?_
      refine AllReadyL.cons (o := _) (by (simp only [List.getElem?_toArray]; rfl)) (fun K hK => ?_) AllReadyL.nil
      refine step_append_elm (by rfl) (.tmp 29) (.tmp 31) (by rfl) (ms.length + 1) elmMg (by rfl) (by rfl) RT.out (fun z hz => by rw [List.mem_singleton.1 hz]; exact mg_one (MO.out.below hS.2).out) RV.out (by rfl) (by rfl) (by rfl) (by simp only [maxLen]; omega) (by omega) (Nat.le_trans hBW hS.2.size) ?_
      intro a3 c3 V2_5 q_
      have hrb_ : ∀ g, rowBlk _ _ = some g → V2.heap.size ≤ g := fun g hg => (RT.out.blk hg).1
      have hRK : Below V2.heap.size V2 V2_5 := hS.2.trans (q_.below (B' := V2.heap.size) (Nat.le_trans hBW hS.2.size) hrb_)
      clear hS
      have hS := KeptB.of hRK
      clear hRK
      have RT2 := Lib.hid (q_.row)
      replace hgX := Lib.hid (BlkIs.grown hgX.out q_.grown (fun g' hg' => hgn.out g' hg'))
      clear q_ hrb_
      refine hK.out _ _ (fun _ => hS) ?_
      clear hK K
      try simp only [Act.put, List.setIfInBounds_toArray, List.set]
      refine wpAnyL_ready (rs := [8]) (by kernel_rfl) (by simp) ?_
      refine AllReadyL.cons (o := _) (by (simp only [List.getElem?_toArray]; rfl)) (fun K hK => ?_) AllReadyL.nil
      have hgl_ := hgX.out.lt
      have IS := Lib.hid (show IsMs V2_5 (.slice a3 (ms.length + 1) c3) (ms ++ [m]) from ⟨by
       have h := RT2.out.sl eleven_len
       rw [List.length_append] at h
       exact h, fun z hz => (List.mem_append.1 hz).elim (fun h' => (HMSX.out _ (KW.out.trans (hS.2.mono KW.out.size))).2 z h') (fun h' => by rw [List.mem_singleton.1 h']; exact (MO.out.below hS.2).out)⟩)
      have MSF := Lib.hid (fit_snoc HMSF.out HMF.out)
      go_simp
      refine (l5Turned_c (Bx X1 V2.heap.size V2_5.heap.size) T D r1 _ _ m (ms ++ [m]) V2_5 (R1.out.box hS.2 _) F1.out (isMg_sl MV.out.1 MV.out.2 (MO.out.below hS.2).out) HMF.out IS.out MSF.out (Bx.lt (fun b hb => Nat.lt_of_lt_of_le (hlt b hb) hs) hS.2.size) hT).mono ?_
      rintro e V2_6 ⟨r2, a4, c4, sy, rfl, hr2, hf2, hsy2, hmf2, hln2, kw_⟩
      have hRK : Below V2.heap.size V2 V2_6 := hS.2.trans (kw_.mono (Nat.le_trans hBW hS.2.size))
      clear hS
      have hS := KeptB.of hRK
      clear hRK
      replace RT2 := Lib.hid (RT2.out.below kw_)
      replace hgX := Lib.hid (hgX.out.below kw_)
      clear kw_
      have R2 := Lib.hid hr2
      have F2 := Lib.hid hf2
      have S2 := Lib.hid hsy2
      have MF2 := Lib.hid hmf2
      have LN2 := Lib.hid hln2
      clear hr2 hf2 hsy2 hmf2 hln2 IS MSF
      refine hK.out _ _ (fun _ => hS) ?_
      clear hK K
      try simp only [Act.put, List.setIfInBounds_toArray, List.set]
      refine wpAnyL_take (i := 9) (oi := _) (v := ?_) (by (simp only [List.getElem?_toArray]; rfl)) (by kernel_rfl) (by kernel_rfl) (by kernel_rfl) (by kernel_rfl) (by exact fun _ _ _ h => h) (Or.inl ⟨by rfl, ?_⟩) (by assumption) ?_
      rotate_left
      ·
       intro wS hSw
       go_simp
       all_goals first | with_reducible rfl | rw [if_neg (by omega)]
      simp only [Act.put, List.setIfInBounds_toArray, List.set]
      refine wpAnyL_take (i := 10) (oi := _) (v := ?_) (by (simp only [List.getElem?_toArray]; rfl)) (by kernel_rfl) (by kernel_rfl) (by kernel_rfl) (by kernel_rfl) (by exact fun _ _ _ h => h) (Or.inl ⟨by rfl, ?_⟩) (by assumption) ?_
      rotate_left
      ·
       intro wS hSw
       go_simp
       all_goals first | with_reducible rfl | rw [if_neg (by omega)]
      simp only [Act.put, List.setIfInBounds_toArray, List.set]
      refine wpAnyL_take (i := 11) (oi := _) (v := ?_) (by (simp only [List.getElem?_toArray]; rfl)) (by kernel_rfl) (by kernel_rfl) (by kernel_rfl) (by kernel_rfl) (by exact fun _ _ _ h => h) (Or.inl ⟨by rfl, ?_⟩) (by assumption) ?_
      rotate_left
      ·
       intro wS hSw
       go_simp
       all_goals first | with_reducible rfl | rw [if_neg (by omega)]
      simp only [Act.put, List.setIfInBounds_toArray, List.set]
      refine wpAnyL_ready (rs := [13]) (by kernel_rfl) (by simp) ?_
      refine AllReadyL.cons (o := _) (by (simp only [List.getElem?_toArray]; rfl)) (fun K hK => ?_) AllReadyL.nil
      have zq_ := hgX.out
      unfold BlkIs at zq_
      have cq_ := cell_of_block zq_
      have fq_ := unfrozen_of_block zq_
      have lq_ := lt_of_block zq_
      go_simp
      obtain ⟨Q1, hV_, sV_, x9, oV_, kV_⟩ := stored7 V2_6 (V2_2.heap.size) _ _ _ _ _ _ _ (.int .i64 r2.me) (.int .i64 r2.view) (.bool r2.live) (.int .i64 r2.nx) (.slice r2.ta r2.tk.length r2.tc) (.slice r2.ha r2.hd.length r2.hc) (.slice r2.da r2.dn.length r2.dc) zq_
      rw [← hV_]
      clear hV_
      replace R2 := Lib.hid (Rob.weak (X' := X1) (R2.out.stored sV_ oV_ (by first | exact .inr ⟨hg0_, hgl_⟩ | exact .inr ⟨Nat.le_refl _, hgl_⟩)) (by first | exact fun b hb => .inl hb | exact fun b hb => .inl (.inl hb)))
      replace S2 := Lib.hid (Rob.weak (X' := X1) (S2.out.stored sV_ oV_ (by first | exact .inr ⟨hg0_, hgl_⟩ | exact .inr ⟨Nat.le_refl _, hgl_⟩)) (by first | exact fun b hb => .inl hb | exact fun b hb => .inl (.inl hb)))
      have KQ := Lib.hid (hS.2.trans (kV_.mono hg0_))
      replace hS := KeptB.of KQ.out
      clear zq_ cq_ fq_ lq_ kV_ oV_ sV_ hgX
      refine hK.out _ _ (fun _ => hS) ?_
      clear hK K
      try simp only [Act.put, List.setIfInBounds_toArray, List.set]
      refine wpAnyL_take (i := 14) (oi := _) (v := ?_) (by (simp only [List.getElem?_toArray]; rfl)) (by kernel_rfl) (by kernel_rfl) (by kernel_rfl) (by kernel_rfl) (by exact fun _ _ _ h => h) (Or.inl ⟨by rfl, ?_⟩) (by assumption) ?_
      rotate_left
      ·
       intro wS hSw
       go_simp
       all_goals first | with_reducible rfl | rw [if_neg (by omega)]
      simp only [Act.put, List.setIfInBounds_toArray, List.set]
      refine wpAnyL_done (by kernel_rfl) ?_ _
      clear hS
      clear cx fx lx cl fl ll
      go_wp2_with fail
      go_meet
      exact ⟨V2_2.heap.size, r2, a4, c4, sy, rfl, rfl, hg0_, x9, R2.out, F2.out, S2.out, MF2.out, LN2.out, KQ.out⟩
     exact AllReadyL.nil
    refine AllReadyL.cons (o := _) (by (simp only [List.getElem?_toArray]; rfl)) (fun K hK => ?_) ?_
    ·
     skip
     go_simp
     obtain ⟨V2_2, hw_, sw_, hv_, kw_⟩ := blocks1 V2_1 (.cells #[.int .i64 0, .int .i64 0, .bool false, .int .i64 0, .slice none 0 0, .slice none 0 0, .slice none 0 0] 78)
     rw [← hw_]
     clear hw_
     have hgl_ : V2_1.heap.size < V2_2.heap.size := by omega
     have hg0_ : V2.heap.size ≤ V2_1.heap.size := Nat.le_trans hBW hS.2.size
     have hgX := Lib.hid (show BlkIs V2_1.heap.size #[.int .i64 0, .int .i64 0, .bool false, .int .i64 0, .slice none 0 0, .slice none 0 0, .slice none 0 0] 78 V2_2 from hv_)
     clear hv_ sw_
     have hRK : Below V2.heap.size V2 V2_2 := hS.2.trans (kw_.mono (Nat.le_trans hBW hS.2.size))
     clear hS
     have hS := KeptB.of hRK
     clear hRK
     replace HT := Lib.hid (HT.out.below kw_)
     clear kw_
     refine hK.out _ _ (fun _ => hS) ?_
     clear hK K
     try simp only [Act.put, List.setIfInBounds_toArray, List.set]
     refine wpAnyL_ready (rs := [4, 6]) (by kernel_rfl) (by simp) ?_
     refine AllReadyL.cons (o := _) (by (simp only [List.getElem?_toArray]; rfl)) (fun K hK => ?_) ?_
     ·
      skip
      have hgq_ := hgX.out.lt
      refine step_append_newM V2_2.heap.size (by rfl) (.tmp 27) (.tmp 28) (by rfl) elmMg (by rfl) (by rfl) (fun z hz => mg_one ((HMSX.out _ (KW.out.trans (hS.2.mono KW.out.size))).2 z hz)) (HT.out) (by rfl) (by simp only [maxLen]; omega) (by omega) (Nat.le_refl _) ?_
      intro a2 c2 V2_3 q_
      have hq_ : V2.heap.size ≤ V2_2.heap.size := Nat.le_trans hBW hS.2.size
      have kw_ := q_.below
      have hRK : Below V2.heap.size V2 V2_3 := hS.2.trans (kw_.mono (Nat.le_trans hBW hS.2.size))
      clear hS
      have hS := KeptB.of hRK
      clear hRK
      replace HT := Lib.hid (HT.out.below kw_)
      replace hgX := Lib.hid (hgX.out.below kw_)
      clear kw_
      have RT := Lib.hid (q_.row.low hq_)
      have hgn := Lib.hid (show ∀ g', rowBlk a2 c2 = some g' → g' ≠ V2_1.heap.size from fun g' hg' => by have := q_.blk g' hg'; omega)
      clear q_ hq_
      refine hK.out _ _ (fun _ => hS) ?_
      clear hK K
      try simp only [Act.put, List.setIfInBounds_toArray, List.set]
      refine wpAnyL_ready (rs := [6]) (by kernel_rfl) (by simp) ?_
      refine AllReadyL.cons (o := _) (by (simp only [List.getElem?_toArray]; rfl)) (fun K hK => ?_) AllReadyL.nil
      go_simp
      obtain ⟨V2_4, hw_, sw_, hv_, kw_⟩ := blocks1 V2_3 (.cells #[.int .i64 m.k, .int .i64 m.f, .int .i64 m.v, .int .i64 m.s, .int .i64 m.r.c, .int .i64 m.r.n, .int .i64 m.r.o, .int .i64 m.r.x, .int .i64 m.r.y, .slice a1 m.cl.length c1, .slice b1 m.vs.length d1] 34)
      rw [← hw_]
      clear hw_ sw_
      have hRK : Below V2.heap.size V2 V2_4 := hS.2.trans (kw_.mono (Nat.le_trans hBW hS.2.size))
      clear hS
      have hS := KeptB.of hRK
      clear hRK
      replace HT := Lib.hid (HT.out.below kw_)
      replace hgX := Lib.hid (hgX.out.below kw_)
      replace RT := Lib.hid (RT.out.below kw_)
      clear kw_
      have RV := Lib.hid (show RowsAt V2_4 (some ⟨V2_3.heap.size, 0, none⟩) 11 Mg.cs [m] from rows_of_block (R := Mg.cs) (zs := [m]) eleven_len (by rw [flat_m MV.out.1 MV.out.2]; exact hv_))
      clear hv_
      refine hK.out _ _ (fun _ => hS) ?_
      clear hK K
      try simp only [Act.put, List.setIfInBounds_toArray, List.set]
      refine wpAnyL_ready (rs := [7]) (by kernel_rfl) (by simp) ?_
      refine AllReadyL.cons (o := _) (by (simp only [List.getElem?_toArray]; rfl)) (fun K hK => ?_) AllReadyL.nil
      refine step_append_elm (by rfl) (.tmp 29) (.tmp 31) (by rfl) (ms.length + 1) elmMg (by rfl) (by rfl) RT.out (fun z hz => by rw [List.mem_singleton.1 hz]; exact mg_one (MO.out.below hS.2).out) RV.out (by rfl) (by rfl) (by rfl) (by simp only [maxLen]; omega) (by omega) (Nat.le_trans hBW hS.2.size) ?_
      intro a3 c3 V2_5 q_
      have hrb_ : ∀ g, rowBlk _ _ = some g → V2.heap.size ≤ g := fun g hg => (RT.out.blk hg).1
      have hRK : Below V2.heap.size V2 V2_5 := hS.2.trans (q_.below (B' := V2.heap.size) (Nat.le_trans hBW hS.2.size) hrb_)
      clear hS
      have hS := KeptB.of hRK
      clear hRK
      have RT2 := Lib.hid (q_.row)
      replace hgX := Lib.hid (BlkIs.grown hgX.out q_.grown (fun g' hg' => hgn.out g' hg'))
      clear q_ hrb_
      refine hK.out _ _ (fun _ => hS) ?_
      clear hK K
      try simp only [Act.put, List.setIfInBounds_toArray, List.set]
      refine wpAnyL_ready (rs := [8]) (by kernel_rfl) (by simp) ?_
      refine AllReadyL.cons (o := _) (by (simp only [List.getElem?_toArray]; rfl)) (fun K hK => ?_) AllReadyL.nil
      have hgl_ := hgX.out.lt
      have IS := Lib.hid (show IsMs V2_5 (.slice a3 (ms.length + 1) c3) (ms ++ [m]) from ⟨by
       have h := RT2.out.sl eleven_len
       rw [List.length_append] at h
       exact h, fun z hz => (List.mem_append.1 hz).elim (fun h' => (HMSX.out _ (KW.out.trans (hS.2.mono KW.out.size))).2 z h') (fun h' => by rw [List.mem_singleton.1 h']; exact (MO.out.below hS.2).out)⟩)
      have MSF := Lib.hid (fit_snoc HMSF.out HMF.out)
      go_simp
      refine (l5Turned_c (Bx X1 V2.heap.size V2_5.heap.size) T D r1 _ _ m (ms ++ [m]) V2_5 (R1.out.box hS.2 _) F1.out (isMg_sl MV.out.1 MV.out.2 (MO.out.below hS.2).out) HMF.out IS.out MSF.out (Bx.lt (fun b hb => Nat.lt_of_lt_of_le (hlt b hb) hs) hS.2.size) hT).mono ?_
      rintro e V2_6 ⟨r2, a4, c4, sy, rfl, hr2, hf2, hsy2, hmf2, hln2, kw_⟩
      have hRK : Below V2.heap.size V2 V2_6 := hS.2.trans (kw_.mono (Nat.le_trans hBW hS.2.size))
      clear hS
      have hS := KeptB.of hRK
      clear hRK
      replace RT2 := Lib.hid (RT2.out.below kw_)
      replace hgX := Lib.hid (hgX.out.below kw_)
      clear kw_
      have R2 := Lib.hid hr2
      have F2 := Lib.hid hf2
      have S2 := Lib.hid hsy2
      have MF2 := Lib.hid hmf2
      have LN2 := Lib.hid hln2
      clear hr2 hf2 hsy2 hmf2 hln2 IS MSF
      refine hK.out _ _ (fun _ => hS) ?_
      clear hK K
      try simp only [Act.put, List.setIfInBounds_toArray, List.set]
      refine wpAnyL_take (i := 9) (oi := _) (v := ?_) (by (simp only [List.getElem?_toArray]; rfl)) (by kernel_rfl) (by kernel_rfl) (by kernel_rfl) (by kernel_rfl) (by exact fun _ _ _ h => h) (Or.inl ⟨by rfl, ?_⟩) (by assumption) ?_
      rotate_left
      ·
       intro wS hSw
       go_simp
       all_goals first | with_reducible rfl | rw [if_neg (by omega)]
      simp only [Act.put, List.setIfInBounds_toArray, List.set]
      refine wpAnyL_take (i := 10) (oi := _) (v := ?_) (by (simp only [List.getElem?_toArray]; rfl)) (by kernel_rfl) (by kernel_rfl) (by kernel_rfl) (by kernel_rfl) (by exact fun _ _ _ h => h) (Or.inl ⟨by rfl, ?_⟩) (by assumption) ?_
      rotate_left
      ·
       intro wS hSw
       go_simp
       all_goals first | with_reducible rfl | rw [if_neg (by omega)]
      simp only [Act.put, List.setIfInBounds_toArray, List.set]
      refine wpAnyL_take (i := 11) (oi := _) (v := ?_) (by (simp only [List.getElem?_toArray]; rfl)) (by kernel_rfl) (by kernel_rfl) (by kernel_rfl) (by kernel_rfl) (by exact fun _ _ _ h => h) (Or.inl ⟨by rfl, ?_⟩) (by assumption) ?_
      rotate_left
      ·
       intro wS hSw
       go_simp
       all_goals first | with_reducible rfl | rw [if_neg (by omega)]
      simp only [Act.put, List.setIfInBounds_toArray, List.set]
      refine wpAnyL_ready (rs := [13]) (by kernel_rfl) (by simp) ?_
      refine AllReadyL.cons (o := _) (by (simp only [List.getElem?_toArray]; rfl)) (fun K hK => ?_) AllReadyL.nil
      have zq_ := hgX.out
      unfold BlkIs at zq_
      have cq_ := cell_of_block zq_
      have fq_ := unfrozen_of_block zq_
      have lq_ := lt_of_block zq_
      go_simp
      obtain ⟨Q1, hV_, sV_, x9, oV_, kV_⟩ := stored7 V2_6 (V2_1.heap.size) _ _ _ _ _ _ _ (.int .i64 r2.me) (.int .i64 r2.view) (.bool r2.live) (.int .i64 r2.nx) (.slice r2.ta r2.tk.length r2.tc) (.slice r2.ha r2.hd.length r2.hc) (.slice r2.da r2.dn.length r2.dc) zq_
      rw [← hV_]
      clear hV_
      replace R2 := Lib.hid (Rob.weak (X' := X1) (R2.out.stored sV_ oV_ (by first | exact .inr ⟨hg0_, hgl_⟩ | exact .inr ⟨Nat.le_refl _, hgl_⟩)) (by first | exact fun b hb => .inl hb | exact fun b hb => .inl (.inl hb)))
      replace S2 := Lib.hid (Rob.weak (X' := X1) (S2.out.stored sV_ oV_ (by first | exact .inr ⟨hg0_, hgl_⟩ | exact .inr ⟨Nat.le_refl _, hgl_⟩)) (by first | exact fun b hb => .inl hb | exact fun b hb => .inl (.inl hb)))
      have KQ := Lib.hid (hS.2.trans (kV_.mono hg0_))
      replace hS := KeptB.of KQ.out
      clear zq_ cq_ fq_ lq_ kV_ oV_ sV_ hgX
      refine hK.out _ _ (fun _ => hS) ?_
      clear hK K
      try simp only [Act.put, List.setIfInBounds_toArray, List.set]
      refine wpAnyL_take (i := 14) (oi := _) (v := ?_) (by (simp only [List.getElem?_toArray]; rfl)) (by kernel_rfl) (by kernel_rfl) (by kernel_rfl) (by kernel_rfl) (by exact fun _ _ _ h => h) (Or.inl ⟨by rfl, ?_⟩) (by assumption) ?_
      rotate_left
      ·
       intro wS hSw
       go_simp
       all_goals first | with_reducible rfl | rw [if_neg (by omega)]
      simp only [Act.put, List.setIfInBounds_toArray, List.set]
      refine wpAnyL_done (by kernel_rfl) ?_ _
      clear hS
      clear cx fx lx cl fl ll
      go_wp2_with fail
      go_meet
      exact ⟨V2_1.heap.size, r2, a4, c4, sy, rfl, rfl, hg0_, x9, R2.out, F2.out, S2.out, MF2.out, LN2.out, KQ.out⟩
     refine AllReadyL.cons (o := _) (by (simp only [List.getElem?_toArray]; rfl)) (fun K hK => ?_) ?_
     ·
      skip
      go_simp
      obtain ⟨V2_3, hw_, sw_, hv_, kw_⟩ := blocks1 V2_2 (.cells #[.int .i64 m.k, .int .i64 m.f, .int .i64 m.v, .int .i64 m.s, .int .i64 m.r.c, .int .i64 m.r.n, .int .i64 m.r.o, .int .i64 m.r.x, .int .i64 m.r.y, .slice a1 m.cl.length c1, .slice b1 m.vs.length d1] 34)
      rw [← hw_]
      clear hw_ sw_
      have hRK : Below V2.heap.size V2 V2_3 := hS.2.trans (kw_.mono (Nat.le_trans hBW hS.2.size))
      clear hS
      have hS := KeptB.of hRK
      clear hRK
      replace HT := Lib.hid (HT.out.below kw_)
      replace hgX := Lib.hid (hgX.out.below kw_)
      clear kw_
      have RV := Lib.hid (show RowsAt V2_3 (some ⟨V2_2.heap.size, 0, none⟩) 11 Mg.cs [m] from rows_of_block (R := Mg.cs) (zs := [m]) eleven_len (by rw [flat_m MV.out.1 MV.out.2]; exact hv_))
      clear hv_
      refine hK.out _ _ (fun _ => hS) ?_
      clear hK K
      try simp only [Act.put, List.setIfInBounds_toArray, List.set]
      refine wpAnyL_ready (rs := [4]) (by kernel_rfl) (by simp) ?_
      refine AllReadyL.cons (o := _) (by (simp only [List.getElem?_toArray]; rfl)) (fun K hK => ?_) AllReadyL.nil
      have hgq_ := hgX.out.lt
      refine step_append_newM V2_3.heap.size (by rfl) (.tmp 27) (.tmp 28) (by rfl) elmMg (by rfl) (by rfl) (fun z hz => mg_one ((HMSX.out _ (KW.out.trans (hS.2.mono KW.out.size))).2 z hz)) (HT.out) (by rfl) (by simp only [maxLen]; omega) (by omega) (Nat.le_refl _) ?_
      intro a2 c2 V2_4 q_
      have hq_ : V2.heap.size ≤ V2_3.heap.size := Nat.le_trans hBW hS.2.size
      have kw_ := q_.below
      have hRK : Below V2.heap.size V2 V2_4 := hS.2.trans (kw_.mono (Nat.le_trans hBW hS.2.size))
      clear hS
      have hS := KeptB.of hRK
      clear hRK
      replace HT := Lib.hid (HT.out.below kw_)
      replace hgX := Lib.hid (hgX.out.below kw_)
      replace RV := Lib.hid (RV.out.below kw_)
      clear kw_
      have RT := Lib.hid (q_.row.low hq_)
      have hgn := Lib.hid (show ∀ g', rowBlk a2 c2 = some g' → g' ≠ V2_1.heap.size from fun g' hg' => by have := q_.blk g' hg'; omega)
      clear q_ hq_
      refine hK.out _ _ (fun _ => hS) ?_
      clear hK K
      try simp only [Act.put, List.setIfInBounds_toArray, List.set]
      refine wpAnyL_ready (rs := [7]) (by kernel_rfl) (by simp) ?_
      refine AllReadyL.cons (o := _) (by (simp only [List.getElem?_toArray]; rfl)) (fun K hK => ?_) AllReadyL.nil
      refine step_append_elm (by rfl) (.tmp 29) (.tmp 31) (by rfl) (ms.length + 1) elmMg (by rfl) (by rfl) RT.out (fun z hz => by rw [List.mem_singleton.1 hz]; exact mg_one (MO.out.below hS.2).out) RV.out (by rfl) (by rfl) (by rfl) (by simp only [maxLen]; omega) (by omega) (Nat.le_trans hBW hS.2.size) ?_
      intro a3 c3 V2_5 q_
      have hrb_ : ∀ g, rowBlk _ _ = some g → V2.heap.size ≤ g := fun g hg => (RT.out.blk hg).1
      have hRK : Below V2.heap.size V2 V2_5 := hS.2.trans (q_.below (B' := V2.heap.size) (Nat.le_trans hBW hS.2.size) hrb_)
      clear hS
      have hS := KeptB.of hRK
      clear hRK
      have RT2 := Lib.hid (q_.row)
      replace hgX := Lib.hid (BlkIs.grown hgX.out q_.grown (fun g' hg' => hgn.out g' hg'))
      clear q_ hrb_
      refine hK.out _ _ (fun _ => hS) ?_
      clear hK K
      try simp only [Act.put, List.setIfInBounds_toArray, List.set]
      refine wpAnyL_ready (rs := [8]) (by kernel_rfl) (by simp) ?_
      refine AllReadyL.cons (o := _) (by (simp only [List.getElem?_toArray]; rfl)) (fun K hK => ?_) AllReadyL.nil
      have hgl_ := hgX.out.lt
      have IS := Lib.hid (show IsMs V2_5 (.slice a3 (ms.length + 1) c3) (ms ++ [m]) from ⟨by
       have h := RT2.out.sl eleven_len
       rw [List.length_append] at h
       exact h, fun z hz => (List.mem_append.1 hz).elim (fun h' => (HMSX.out _ (KW.out.trans (hS.2.mono KW.out.size))).2 z h') (fun h' => by rw [List.mem_singleton.1 h']; exact (MO.out.below hS.2).out)⟩)
      have MSF := Lib.hid (fit_snoc HMSF.out HMF.out)
      go_simp
      refine (l5Turned_c (Bx X1 V2.heap.size V2_5.heap.size) T D r1 _ _ m (ms ++ [m]) V2_5 (R1.out.box hS.2 _) F1.out (isMg_sl MV.out.1 MV.out.2 (MO.out.below hS.2).out) HMF.out IS.out MSF.out (Bx.lt (fun b hb => Nat.lt_of_lt_of_le (hlt b hb) hs) hS.2.size) hT).mono ?_
      rintro e V2_6 ⟨r2, a4, c4, sy, rfl, hr2, hf2, hsy2, hmf2, hln2, kw_⟩
      have hRK : Below V2.heap.size V2 V2_6 := hS.2.trans (kw_.mono (Nat.le_trans hBW hS.2.size))
      clear hS
      have hS := KeptB.of hRK
      clear hRK
      replace RT2 := Lib.hid (RT2.out.below kw_)
      replace hgX := Lib.hid (hgX.out.below kw_)
      clear kw_
      have R2 := Lib.hid hr2
      have F2 := Lib.hid hf2
      have S2 := Lib.hid hsy2
      have MF2 := Lib.hid hmf2
      have LN2 := Lib.hid hln2
      clear hr2 hf2 hsy2 hmf2 hln2 IS MSF
      refine hK.out _ _ (fun _ => hS) ?_
      clear hK K
      try simp only [Act.put, List.setIfInBounds_toArray, List.set]
      refine wpAnyL_take (i := 9) (oi := _) (v := ?_) (by (simp only [List.getElem?_toArray]; rfl)) (by kernel_rfl) (by kernel_rfl) (by kernel_rfl) (by kernel_rfl) (by exact fun _ _ _ h => h) (Or.inl ⟨by rfl, ?_⟩) (by assumption) ?_
      rotate_left
      ·
       intro wS hSw
       go_simp
       all_goals first | with_reducible rfl | rw [if_neg (by omega)]
      simp only [Act.put, List.setIfInBounds_toArray, List.set]
      refine wpAnyL_take (i := 10) (oi := _) (v := ?_) (by (simp only [List.getElem?_toArray]; rfl)) (by kernel_rfl) (by kernel_rfl) (by kernel_rfl) (by kernel_rfl) (by exact fun _ _ _ h => h) (Or.inl ⟨by rfl, ?_⟩) (by assumption) ?_
      rotate_left
      ·
       intro wS hSw
       go_simp
       all_goals first | with_reducible rfl | rw [if_neg (by omega)]
      simp only [Act.put, List.setIfInBounds_toArray, List.set]
      refine wpAnyL_take (i := 11) (oi := _) (v := ?_) (by (simp only [List.getElem?_toArray]; rfl)) (by kernel_rfl) (by kernel_rfl) (by kernel_rfl) (by kernel_rfl) (by exact fun _ _ _ h => h) (Or.inl ⟨by rfl, ?_⟩) (by assumption) ?_
      rotate_left
      ·
       intro wS hSw
       go_simp
       all_goals first | with_reducible rfl | rw [if_neg (by omega)]
      simp only [Act.put, List.setIfInBounds_toArray, List.set]
      refine wpAnyL_ready (rs := [13]) (by kernel_rfl) (by simp) ?_
      refine AllReadyL.cons (o := _) (by (simp only [List.getElem?_toArray]; rfl)) (fun K hK => ?_) AllReadyL.nil
      have zq_ := hgX.out
      unfold BlkIs at zq_
      have cq_ := cell_of_block zq_
      have fq_ := unfrozen_of_block zq_
      have lq_ := lt_of_block zq_
      go_simp
      obtain ⟨Q1, hV_, sV_, x9, oV_, kV_⟩ := stored7 V2_6 (V2_1.heap.size) _ _ _ _ _ _ _ (.int .i64 r2.me) (.int .i64 r2.view) (.bool r2.live) (.int .i64 r2.nx) (.slice r2.ta r2.tk.length r2.tc) (.slice r2.ha r2.hd.length r2.hc) (.slice r2.da r2.dn.length r2.dc) zq_
      rw [← hV_]
      clear hV_
      replace R2 := Lib.hid (Rob.weak (X' := X1) (R2.out.stored sV_ oV_ (by first | exact .inr ⟨hg0_, hgl_⟩ | exact .inr ⟨Nat.le_refl _, hgl_⟩)) (by first | exact fun b hb => .inl hb | exact fun b hb => .inl (.inl hb)))
      replace S2 := Lib.hid (Rob.weak (X' := X1) (S2.out.stored sV_ oV_ (by first | exact .inr ⟨hg0_, hgl_⟩ | exact .inr ⟨Nat.le_refl _, hgl_⟩)) (by first | exact fun b hb => .inl hb | exact fun b hb => .inl (.inl hb)))
      have KQ := Lib.hid (hS.2.trans (kV_.mono hg0_))
      replace hS := KeptB.of KQ.out
      clear zq_ cq_ fq_ lq_ kV_ oV_ sV_ hgX
      refine hK.out _ _ (fun _ => hS) ?_
      clear hK K
      try simp only [Act.put, List.setIfInBounds_toArray, List.set]
      refine wpAnyL_take (i := 14) (oi := _) (v := ?_) (by (simp only [List.getElem?_toArray]; rfl)) (by kernel_rfl) (by kernel_rfl) (by kernel_rfl) (by kernel_rfl) (by exact fun _ _ _ h => h) (Or.inl ⟨by rfl, ?_⟩) (by assumption) ?_
      rotate_left
      ·
       intro wS hSw
       go_simp
       all_goals first | with_reducible rfl | rw [if_neg (by omega)]
      simp only [Act.put, List.setIfInBounds_toArray, List.set]
      refine wpAnyL_done (by kernel_rfl) ?_ _
      clear hS
      clear cx fx lx cl fl ll
      go_wp2_with fail
      go_meet
      exact ⟨V2_1.heap.size, r2, a4, c4, sy, rfl, rfl, hg0_, x9, R2.out, F2.out, S2.out, MF2.out, LN2.out, KQ.out⟩
     exact AllReadyL.nil
    exact AllReadyL.nil
   refine AllReadyL.cons (o := _) (by (simp only [List.getElem?_toArray]; rfl)) (fun K hK => ?_) ?_
   ·
    skip
    go_simp
    obtain ⟨V2_1, hw_, sw_, hv_, kw_⟩ := blocks1 V2_0 (.cells #[.int .i64 m.k, .int .i64 m.f, .int .i64 m.v, .int .i64 m.s, .int .i64 m.r.c, .int .i64 m.r.n, .int .i64 m.r.o, .int .i64 m.r.x, .int .i64 m.r.y, .slice a1 m.cl.length c1, .slice b1 m.vs.length d1] 34)
    rw [← hw_]
    clear hw_ sw_
    have hRK : Below V2.heap.size V2 V2_1 := hS.2.trans (kw_.mono (Nat.le_trans hBW hS.2.size))
    clear hS
    have hS := KeptB.of hRK
    clear hRK
    replace HT := Lib.hid (HT.out.below kw_)
    clear kw_
    have RV := Lib.hid (show RowsAt V2_1 (some ⟨V2_0.heap.size, 0, none⟩) 11 Mg.cs [m] from rows_of_block (R := Mg.cs) (zs := [m]) eleven_len (by rw [flat_m MV.out.1 MV.out.2]; exact hv_))
    clear hv_
    refine hK.out _ _ (fun _ => hS) ?_
    clear hK K
    try simp only [Act.put, List.setIfInBounds_toArray, List.set]
    refine wpAnyL_ready (rs := [2, 12]) (by kernel_rfl) (by simp) ?_
    refine AllReadyL.cons (o := _) (by (simp only [List.getElem?_toArray]; rfl)) (fun K hK => ?_) ?_
    ·
     skip
     refine step_build0M (by rfl) (by rfl) elmMg ?_
     obtain ⟨V2_2, hw_, kw_⟩ : ∃ V, V = V2_1.alloc (.cells #[] 34) ∧ Below V2_1.heap.size V2_1 V := ⟨_, rfl, (Below.refl _ _).alloc (Nat.le_refl _) _⟩
     rw [← hw_]
     clear hw_
     have hRK : Below V2.heap.size V2 V2_2 := hS.2.trans (kw_.mono (Nat.le_trans hBW hS.2.size))
     clear hS
     have hS := KeptB.of hRK
     clear hRK
     replace HT := Lib.hid (HT.out.below kw_)
     replace RV := Lib.hid (RV.out.below kw_)
     clear kw_
     refine hK.out _ _ (fun _ => hS) ?_
     clear hK K
     try simp only [Act.put, List.setIfInBounds_toArray, List.set]
     refine wpAnyL_ready (rs := [4, 12]) (by kernel_rfl) (by simp) ?_
     refine AllReadyL.cons (o := _) (by (simp only [List.getElem?_toArray]; rfl)) (fun K hK => ?_) ?_
     ·
      skip
      refine step_append_newM V2_2.heap.size (by rfl) (.tmp 27) (.tmp 28) (by rfl) elmMg (by rfl) (by rfl) (fun z hz => mg_one ((HMSX.out _ (KW.out.trans (hS.2.mono KW.out.size))).2 z hz)) (HT.out) (by rfl) (by simp only [maxLen]; omega) (by omega) (Nat.le_refl _) ?_
      intro a2 c2 V2_3 q_
      have hq_ : V2.heap.size ≤ V2_2.heap.size := Nat.le_trans hBW hS.2.size
      have kw_ := q_.below
      have hRK : Below V2.heap.size V2 V2_3 := hS.2.trans (kw_.mono (Nat.le_trans hBW hS.2.size))
      clear hS
      have hS := KeptB.of hRK
      clear hRK
      replace HT := Lib.hid (HT.out.below kw_)
      replace RV := Lib.hid (RV.out.below kw_)
      clear kw_
      have RT := Lib.hid (q_.row.low hq_)
      clear q_ hq_
      refine hK.out _ _ (fun _ => hS) ?_
      clear hK K
      try simp only [Act.put, List.setIfInBounds_toArray, List.set]
      refine wpAnyL_ready (rs := [7, 12]) (by kernel_rfl) (by simp) ?_
      refine AllReadyL.cons (o := _) (by (simp only [List.getElem?_toArray]; rfl)) (fun K hK => ?_) ?_
      ·
       skip
       refine step_append_elm (by rfl) (.tmp 29) (.tmp 31) (by rfl) (ms.length + 1) elmMg (by rfl) (by rfl) RT.out (fun z hz => by rw [List.mem_singleton.1 hz]; exact mg_one (MO.out.below hS.2).out) RV.out (by rfl) (by rfl) (by rfl) (by simp only [maxLen]; omega) (by omega) (Nat.le_trans hBW hS.2.size) ?_
       intro a3 c3 V2_4 q_
       have hrb_ : ∀ g, rowBlk _ _ = some g → V2.heap.size ≤ g := fun g hg => (RT.out.blk hg).1
       have hRK : Below V2.heap.size V2 V2_4 := hS.2.trans (q_.below (B' := V2.heap.size) (Nat.le_trans hBW hS.2.size) hrb_)
       clear hS
       have hS := KeptB.of hRK
       clear hRK
       have RT2 := Lib.hid (q_.row)
       clear q_ hrb_
       refine hK.out _ _ (fun _ => hS) ?_
       clear hK K
       try simp only [Act.put, List.setIfInBounds_toArray, List.set]
       refine wpAnyL_ready (rs := [8, 12]) (by kernel_rfl) (by simp) ?_
       refine AllReadyL.cons (o := _) (by (simp only [List.getElem?_toArray]; rfl)) (fun K hK => ?_) ?_
       ·
        skip
        have IS := Lib.hid (show IsMs V2_4 (.slice a3 (ms.length + 1) c3) (ms ++ [m]) from ⟨by
         have h := RT2.out.sl eleven_len
         rw [List.length_append] at h
         exact h, fun z hz => (List.mem_append.1 hz).elim (fun h' => (HMSX.out _ (KW.out.trans (hS.2.mono KW.out.size))).2 z h') (fun h' => by rw [List.mem_singleton.1 h']; exact (MO.out.below hS.2).out)⟩)
        have MSF := Lib.hid (fit_snoc HMSF.out HMF.out)
        go_simp
        refine (l5Turned_c (Bx X1 V2.heap.size V2_4.heap.size) T D r1 _ _ m (ms ++ [m]) V2_4 (R1.out.box hS.2 _) F1.out (isMg_sl MV.out.1 MV.out.2 (MO.out.below hS.2).out) HMF.out IS.out MSF.out (Bx.lt (fun b hb => Nat.lt_of_lt_of_le (hlt b hb) hs) hS.2.size) hT).mono ?_
        rintro e V2_5 ⟨r2, a4, c4, sy, rfl, hr2, hf2, hsy2, hmf2, hln2, kw_⟩
        have hRK : Below V2.heap.size V2 V2_5 := hS.2.trans (kw_.mono (Nat.le_trans hBW hS.2.size))
        clear hS
        have hS := KeptB.of hRK
        clear hRK
        replace RT2 := Lib.hid (RT2.out.below kw_)
        clear kw_
        have R2 := Lib.hid hr2
        have F2 := Lib.hid hf2
        have S2 := Lib.hid hsy2
        have MF2 := Lib.hid hmf2
        have LN2 := Lib.hid hln2
        clear hr2 hf2 hsy2 hmf2 hln2 IS MSF
        refine hK.out _ _ (fun _ => hS) ?_
        clear hK K
        try simp only [Act.put, List.setIfInBounds_toArray, List.set]
        refine wpAnyL_take (i := 9) (oi := _) (v := ?_) (by (simp only [List.getElem?_toArray]; rfl)) (by kernel_rfl) (by kernel_rfl) (by kernel_rfl) (by kernel_rfl) (by exact fun _ _ _ h => h) (Or.inl ⟨by rfl, ?_⟩) (by assumption) ?_
        rotate_left
        ·
         intro wS hSw
         go_simp
         all_goals first | with_reducible rfl | rw [if_neg (by omega)]
        simp only [Act.put, List.setIfInBounds_toArray, List.set]
        refine wpAnyL_take (i := 10) (oi := _) (v := ?_) (by (simp only [List.getElem?_toArray]; rfl)) (by kernel_rfl) (by kernel_rfl) (by kernel_rfl) (by kernel_rfl) (by exact fun _ _ _ h => h) (Or.inl ⟨by rfl, ?_⟩) (by assumption) ?_
        rotate_left
        ·
         intro wS hSw
         go_simp
         all_goals first | with_reducible rfl | rw [if_neg (by omega)]
        simp only [Act.put, List.setIfInBounds_toArray, List.set]
        refine wpAnyL_take (i := 11) (oi := _) (v := ?_) (by (simp only [List.getElem?_toArray]; rfl)) (by kernel_rfl) (by kernel_rfl) (by kernel_rfl) (by kernel_rfl) (by exact fun _ _ _ h => h) (Or.inl ⟨by rfl, ?_⟩) (by assumption) ?_
        rotate_left
        ·
         intro wS hSw
         go_simp
         all_goals first | with_reducible rfl | rw [if_neg (by omega)]
        simp only [Act.put, List.setIfInBounds_toArray, List.set]
        refine wpAnyL_ready (rs := [12]) (by kernel_rfl) (by simp) ?_
        refine AllReadyL.cons (o := _) (by (simp only [List.getElem?_toArray]; rfl)) (fun K hK => ?_) AllReadyL.nil
        go_simp
        obtain ⟨V2_6, hw_, sw_, hv_, kw_⟩ := blocks1 V2_5 (.cells #[.int .i64 0, .int .i64 0, .bool false, .int .i64 0, .slice none 0 0, .slice none 0 0, .slice none 0 0] 78)
        rw [← hw_]
        clear hw_
        have hgl_ : V2_5.heap.size < V2_6.heap.size := by omega
        have hg0_ : V2.heap.size ≤ V2_5.heap.size := Nat.le_trans hBW hS.2.size
        have hgX := Lib.hid (show BlkIs V2_5.heap.size #[.int .i64 0, .int .i64 0, .bool false, .int .i64 0, .slice none 0 0, .slice none 0 0, .slice none 0 0] 78 V2_6 from hv_)
        clear hv_ sw_
        replace R2 := Lib.hid (R2.out.box kw_ V2_6.heap.size)
        replace S2 := Lib.hid (S2.out.box kw_ V2_6.heap.size)
        have hRK : Below V2.heap.size V2 V2_6 := hS.2.trans (kw_.mono (Nat.le_trans hBW hS.2.size))
        clear hS
        have hS := KeptB.of hRK
        clear hRK
        replace RT2 := Lib.hid (RT2.out.below kw_)
        clear kw_
        refine hK.out _ _ (fun _ => hS) ?_
        clear hK K
        try simp only [Act.put, List.setIfInBounds_toArray, List.set]
        refine wpAnyL_ready (rs := [13]) (by kernel_rfl) (by simp) ?_
        refine AllReadyL.cons (o := _) (by (simp only [List.getElem?_toArray]; rfl)) (fun K hK => ?_) AllReadyL.nil
        have zq_ := hgX.out
        unfold BlkIs at zq_
        have cq_ := cell_of_block zq_
        have fq_ := unfrozen_of_block zq_
        have lq_ := lt_of_block zq_
        go_simp
        obtain ⟨Q1, hV_, sV_, x9, oV_, kV_⟩ := stored7 V2_6 (V2_5.heap.size) _ _ _ _ _ _ _ (.int .i64 r2.me) (.int .i64 r2.view) (.bool r2.live) (.int .i64 r2.nx) (.slice r2.ta r2.tk.length r2.tc) (.slice r2.ha r2.hd.length r2.hc) (.slice r2.da r2.dn.length r2.dc) zq_
        rw [← hV_]
        clear hV_
        replace R2 := Lib.hid (Rob.weak (X' := X1) (R2.out.stored sV_ oV_ (by first | exact .inr ⟨hg0_, hgl_⟩ | exact .inr ⟨Nat.le_refl _, hgl_⟩)) (by first | exact fun b hb => .inl hb | exact fun b hb => .inl (.inl hb)))
        replace S2 := Lib.hid (Rob.weak (X' := X1) (S2.out.stored sV_ oV_ (by first | exact .inr ⟨hg0_, hgl_⟩ | exact .inr ⟨Nat.le_refl _, hgl_⟩)) (by first | exact fun b hb => .inl hb | exact fun b hb => .inl (.inl hb)))
        have KQ := Lib.hid (hS.2.trans (kV_.mono hg0_))
        replace hS := KeptB.of KQ.out
        clear zq_ cq_ fq_ lq_ kV_ oV_ sV_ hgX
        refine hK.out _ _ (fun _ => hS) ?_
        clear hK K
        try simp only [Act.put, List.setIfInBounds_toArray, List.set]
        refine wpAnyL_take (i := 14) (oi := _) (v := ?_) (by (simp only [List.getElem?_toArray]; rfl)) (by kernel_rfl) (by kernel_rfl) (by kernel_rfl) (by kernel_rfl) (by exact fun _ _ _ h => h) (Or.inl ⟨by rfl, ?_⟩) (by assumption) ?_
        rotate_left
        ·
         intro wS hSw
         go_simp
         all_goals first | with_reducible rfl | rw [if_neg (by omega)]
        simp only [Act.put, List.setIfInBounds_toArray, List.set]
        refine wpAnyL_done (by kernel_rfl) ?_ _
        clear hS
        clear cx fx lx cl fl ll
        go_wp2_with fail
        go_meet
        exact ⟨V2_5.heap.size, r2, a4, c4, sy, rfl, rfl, hg0_, x9, R2.out, F2.out, S2.out, MF2.out, LN2.out, KQ.out⟩
       refine AllReadyL.cons (o := _) (by (simp only [List.getElem?_toArray]; rfl)) (fun K hK => ?_) ?_
       ·
        skip
        go_simp
        obtain ⟨V2_5, hw_, sw_, hv_, kw_⟩ := blocks1 V2_4 (.cells #[.int .i64 0, .int .i64 0, .bool false, .int .i64 0, .slice none 0 0, .slice none 0 0, .slice none 0 0] 78)
        rw [← hw_]
        clear hw_
        have hgl_ : V2_4.heap.size < V2_5.heap.size := by omega
        have hg0_ : V2.heap.size ≤ V2_4.heap.size := Nat.le_trans hBW hS.2.size
        have hgX := Lib.hid (show BlkIs V2_4.heap.size #[.int .i64 0, .int .i64 0, .bool false, .int .i64 0, .slice none 0 0, .slice none 0 0, .slice none 0 0] 78 V2_5 from hv_)
        clear hv_ sw_
        have hRK : Below V2.heap.size V2 V2_5 := hS.2.trans (kw_.mono (Nat.le_trans hBW hS.2.size))
        clear hS
        have hS := KeptB.of hRK
        clear hRK
        replace RT2 := Lib.hid (RT2.out.below kw_)
        clear kw_
        refine hK.out _ _ (fun _ => hS) ?_
        clear hK K
        try simp only [Act.put, List.setIfInBounds_toArray, List.set]
        refine wpAnyL_ready (rs := [8]) (by kernel_rfl) (by simp) ?_
        refine AllReadyL.cons (o := _) (by (simp only [List.getElem?_toArray]; rfl)) (fun K hK => ?_) AllReadyL.nil
        have hgl_ := hgX.out.lt
        have IS := Lib.hid (show IsMs V2_5 (.slice a3 (ms.length + 1) c3) (ms ++ [m]) from ⟨by
         have h := RT2.out.sl eleven_len
         rw [List.length_append] at h
         exact h, fun z hz => (List.mem_append.1 hz).elim (fun h' => (HMSX.out _ (KW.out.trans (hS.2.mono KW.out.size))).2 z h') (fun h' => by rw [List.mem_singleton.1 h']; exact (MO.out.below hS.2).out)⟩)
        have MSF := Lib.hid (fit_snoc HMSF.out HMF.out)
        go_simp
        refine (l5Turned_c (Bx X1 V2.heap.size V2_5.heap.size) T D r1 _ _ m (ms ++ [m]) V2_5 (R1.out.box hS.2 _) F1.out (isMg_sl MV.out.1 MV.out.2 (MO.out.below hS.2).out) HMF.out IS.out MSF.out (Bx.lt (fun b hb => Nat.lt_of_lt_of_le (hlt b hb) hs) hS.2.size) hT).mono ?_
        rintro e V2_6 ⟨r2, a4, c4, sy, rfl, hr2, hf2, hsy2, hmf2, hln2, kw_⟩
        have hRK : Below V2.heap.size V2 V2_6 := hS.2.trans (kw_.mono (Nat.le_trans hBW hS.2.size))
        clear hS
        have hS := KeptB.of hRK
        clear hRK
        replace RT2 := Lib.hid (RT2.out.below kw_)
        replace hgX := Lib.hid (hgX.out.below kw_)
        clear kw_
        have R2 := Lib.hid hr2
        have F2 := Lib.hid hf2
        have S2 := Lib.hid hsy2
        have MF2 := Lib.hid hmf2
        have LN2 := Lib.hid hln2
        clear hr2 hf2 hsy2 hmf2 hln2 IS MSF
        refine hK.out _ _ (fun _ => hS) ?_
        clear hK K
        try simp only [Act.put, List.setIfInBounds_toArray, List.set]
        refine wpAnyL_take (i := 9) (oi := _) (v := ?_) (by (simp only [List.getElem?_toArray]; rfl)) (by kernel_rfl) (by kernel_rfl) (by kernel_rfl) (by kernel_rfl) (by exact fun _ _ _ h => h) (Or.inl ⟨by rfl, ?_⟩) (by assumption) ?_
        rotate_left
        ·
         intro wS hSw
         go_simp
         all_goals first | with_reducible rfl | rw [if_neg (by omega)]
        simp only [Act.put, List.setIfInBounds_toArray, List.set]
        refine wpAnyL_take (i := 10) (oi := _) (v := ?_) (by (simp only [List.getElem?_toArray]; rfl)) (by kernel_rfl) (by kernel_rfl) (by kernel_rfl) (by kernel_rfl) (by exact fun _ _ _ h => h) (Or.inl ⟨by rfl, ?_⟩) (by assumption) ?_
        rotate_left
        ·
         intro wS hSw
         go_simp
         all_goals first | with_reducible rfl | rw [if_neg (by omega)]
        simp only [Act.put, List.setIfInBounds_toArray, List.set]
        refine wpAnyL_take (i := 11) (oi := _) (v := ?_) (by (simp only [List.getElem?_toArray]; rfl)) (by kernel_rfl) (by kernel_rfl) (by kernel_rfl) (by kernel_rfl) (by exact fun _ _ _ h => h) (Or.inl ⟨by rfl, ?_⟩) (by assumption) ?_
        rotate_left
        ·
         intro wS hSw
         go_simp
         all_goals first | with_reducible rfl | rw [if_neg (by omega)]
        simp only [Act.put, List.setIfInBounds_toArray, List.set]
        refine wpAnyL_ready (rs := [13]) (by kernel_rfl) (by simp) ?_
        refine AllReadyL.cons (o := _) (by (simp only [List.getElem?_toArray]; rfl)) (fun K hK => ?_) AllReadyL.nil
        have zq_ := hgX.out
        unfold BlkIs at zq_
        have cq_ := cell_of_block zq_
        have fq_ := unfrozen_of_block zq_
        have lq_ := lt_of_block zq_
        go_simp
        obtain ⟨Q1, hV_, sV_, x9, oV_, kV_⟩ := stored7 V2_6 (V2_4.heap.size) _ _ _ _ _ _ _ (.int .i64 r2.me) (.int .i64 r2.view) (.bool r2.live) (.int .i64 r2.nx) (.slice r2.ta r2.tk.length r2.tc) (.slice r2.ha r2.hd.length r2.hc) (.slice r2.da r2.dn.length r2.dc) zq_
        rw [← hV_]
        clear hV_
        replace R2 := Lib.hid (Rob.weak (X' := X1) (R2.out.stored sV_ oV_ (by first | exact .inr ⟨hg0_, hgl_⟩ | exact .inr ⟨Nat.le_refl _, hgl_⟩)) (by first | exact fun b hb => .inl hb | exact fun b hb => .inl (.inl hb)))
        replace S2 := Lib.hid (Rob.weak (X' := X1) (S2.out.stored sV_ oV_ (by first | exact .inr ⟨hg0_, hgl_⟩ | exact .inr ⟨Nat.le_refl _, hgl_⟩)) (by first | exact fun b hb => .inl hb | exact fun b hb => .inl (.inl hb)))
        have KQ := Lib.hid (hS.2.trans (kV_.mono hg0_))
        replace hS := KeptB.of KQ.out
        clear zq_ cq_ fq_ lq_ kV_ oV_ sV_ hgX
        refine hK.out _ _ (fun _ => hS) ?_
        clear hK K
        try simp only [Act.put, List.setIfInBounds_toArray, List.set]
        refine wpAnyL_take (i := 14) (oi := _) (v := ?_) (by (simp only [List.getElem?_toArray]; rfl)) (by kernel_rfl) (by kernel_rfl) (by kernel_rfl) (by kernel_rfl) (by exact fun _ _ _ h => h) (Or.inl ⟨by rfl, ?_⟩) (by assumption) ?_
        rotate_left
        ·
         intro wS hSw
         go_simp
         all_goals first | with_reducible rfl | rw [if_neg (by omega)]
        simp only [Act.put, List.setIfInBounds_toArray, List.set]
        refine wpAnyL_done (by kernel_rfl) ?_ _
        clear hS
        clear cx fx lx cl fl ll
        go_wp2_with fail
        go_meet
        exact ⟨V2_4.heap.size, r2, a4, c4, sy, rfl, rfl, hg0_, x9, R2.out, F2.out, S2.out, MF2.out, LN2.out, KQ.out⟩
       exact AllReadyL.nil
      refine AllReadyL.cons (o := _) (by (simp only [List.getElem?_toArray]; rfl)) (fun K hK => ?_) ?_
      ·
       skip
       have hgn := Lib.hid (show ∀ g', rowBlk a2 c2 = some g' → g' ≠ V2_3.heap.size from fun g' hg' => Nat.ne_of_lt (RT.out.blk hg').2)
       go_simp
       obtain ⟨V2_4, hw_, sw_, hv_, kw_⟩ := blocks1 V2_3 (.cells #[.int .i64 0, .int .i64 0, .bool false, .int .i64 0, .slice none 0 0, .slice none 0 0, .slice none 0 0] 78)
       rw [← hw_]
       clear hw_
       have hgl_ : V2_3.heap.size < V2_4.heap.size := by omega
       have hg0_ : V2.heap.size ≤ V2_3.heap.size := Nat.le_trans hBW hS.2.size
       have hgX := Lib.hid (show BlkIs V2_3.heap.size #[.int .i64 0, .int .i64 0, .bool false, .int .i64 0, .slice none 0 0, .slice none 0 0, .slice none 0 0] 78 V2_4 from hv_)
       clear hv_ sw_
       have hRK : Below V2.heap.size V2 V2_4 := hS.2.trans (kw_.mono (Nat.le_trans hBW hS.2.size))
       clear hS
       have hS := KeptB.of hRK
       clear hRK
       replace HT := Lib.hid (HT.out.below kw_)
       replace RV := Lib.hid (RV.out.below kw_)
       replace RT := Lib.hid (RT.out.below kw_)
       clear kw_
       refine hK.out _ _ (fun _ => hS) ?_
       clear hK K
       try simp only [Act.put, List.setIfInBounds_toArray, List.set]
       refine wpAnyL_ready (rs := [7]) (by kernel_rfl) (by simp) ?_
       refine AllReadyL.cons (o := _) (by (simp only [List.getElem?_toArray]; rfl)) (fun K hK => ?_) AllReadyL.nil
       refine step_append_elm (by rfl) (.tmp 29) (.tmp 31) (by rfl) (ms.length + 1) elmMg (by rfl) (by rfl) RT.out (fun z hz => by rw [List.mem_singleton.1 hz]; exact mg_one (MO.out.below hS.2).out) RV.out (by rfl) (by rfl) (by rfl) (by simp only [maxLen]; omega) (by omega) (Nat.le_trans hBW hS.2.size) ?_
       intro a3 c3 V2_5 q_
       have hrb_ : ∀ g, rowBlk _ _ = some g → V2.heap.size ≤ g := fun g hg => (RT.out.blk hg).1
       have hRK : Below V2.heap.size V2 V2_5 := hS.2.trans (q_.below (B' := V2.heap.size) (Nat.le_trans hBW hS.2.size) hrb_)
       clear hS
       have hS := KeptB.of hRK
       clear hRK
       have RT2 := Lib.hid (q_.row)
       replace hgX := Lib.hid (BlkIs.grown hgX.out q_.grown (fun g' hg' => hgn.out g' hg'))
       clear q_ hrb_
       refine hK.out _ _ (fun _ => hS) ?_
       clear hK K
       try simp only [Act.put, List.setIfInBounds_toArray, List.set]
       refine wpAnyL_ready (rs := [8]) (by kernel_rfl) (by simp) ?_
       refine AllReadyL.cons (o := _) (by (simp only [List.getElem?_toArray]; rfl)) (fun K hK => ?_) AllReadyL.nil
       have hgl_ := hgX.out.lt
       have IS := Lib.hid (show IsMs V2_5 (.slice a3 (ms.length + 1) c3) (ms ++ [m]) from ⟨by
        have h := RT2.out.sl eleven_len
        rw [List.length_append] at h
        exact h, fun z hz => (List.mem_append.1 hz).elim (fun h' => (HMSX.out _ (KW.out.trans (hS.2.mono KW.out.size))).2 z h') (fun h' => by rw [List.mem_singleton.1 h']; exact (MO.out.below hS.2).out)⟩)
       have MSF := Lib.hid (fit_snoc HMSF.out HMF.out)
       go_simp
       refine (l5Turned_c (Bx X1 V2.heap.size V2_5.heap.size) T D r1 _ _ m (ms ++ [m]) V2_5 (R1.out.box hS.2 _) F1.out (isMg_sl MV.out.1 MV.out.2 (MO.out.below hS.2).out) HMF.out IS.out MSF.out (Bx.lt (fun b hb => Nat.lt_of_lt_of_le (hlt b hb) hs) hS.2.size) hT).mono ?_
       rintro e V2_6 ⟨r2, a4, c4, sy, rfl, hr2, hf2, hsy2, hmf2, hln2, kw_⟩
       have hRK : Below V2.heap.size V2 V2_6 := hS.2.trans (kw_.mono (Nat.le_trans hBW hS.2.size))
       clear hS
       have hS := KeptB.of hRK
       clear hRK
       replace RT2 := Lib.hid (RT2.out.below kw_)
       replace hgX := Lib.hid (hgX.out.below kw_)
       clear kw_
       have R2 := Lib.hid hr2
       have F2 := Lib.hid hf2
       have S2 := Lib.hid hsy2
       have MF2 := Lib.hid hmf2
       have LN2 := Lib.hid hln2
       clear hr2 hf2 hsy2 hmf2 hln2 IS MSF
       refine hK.out _ _ (fun _ => hS) ?_
       clear hK K
       try simp only [Act.put, List.setIfInBounds_toArray, List.set]
       refine wpAnyL_take (i := 9) (oi := _) (v := ?_) (by (simp only [List.getElem?_toArray]; rfl)) (by kernel_rfl) (by kernel_rfl) (by kernel_rfl) (by kernel_rfl) (by exact fun _ _ _ h => h) (Or.inl ⟨by rfl, ?_⟩) (by assumption) ?_
       rotate_left
       ·
        intro wS hSw
        go_simp
        all_goals first | with_reducible rfl | rw [if_neg (by omega)]
       simp only [Act.put, List.setIfInBounds_toArray, List.set]
       refine wpAnyL_take (i := 10) (oi := _) (v := ?_) (by (simp only [List.getElem?_toArray]; rfl)) (by kernel_rfl) (by kernel_rfl) (by kernel_rfl) (by kernel_rfl) (by exact fun _ _ _ h => h) (Or.inl ⟨by rfl, ?_⟩) (by assumption) ?_
       rotate_left
       ·
        intro wS hSw
        go_simp
        all_goals first | with_reducible rfl | rw [if_neg (by omega)]
       simp only [Act.put, List.setIfInBounds_toArray, List.set]
       refine wpAnyL_take (i := 11) (oi := _) (v := ?_) (by (simp only [List.getElem?_toArray]; rfl)) (by kernel_rfl) (by kernel_rfl) (by kernel_rfl) (by kernel_rfl) (by exact fun _ _ _ h => h) (Or.inl ⟨by rfl, ?_⟩) (by assumption) ?_
       rotate_left
       ·
        intro wS hSw
        go_simp
        all_goals first | with_reducible rfl | rw [if_neg (by omega)]
       simp only [Act.put, List.setIfInBounds_toArray, List.set]
       refine wpAnyL_ready (rs := [13]) (by kernel_rfl) (by simp) ?_
       refine AllReadyL.cons (o := _) (by (simp only [List.getElem?_toArray]; rfl)) (fun K hK => ?_) AllReadyL.nil
       have zq_ := hgX.out
       unfold BlkIs at zq_
       have cq_ := cell_of_block zq_
       have fq_ := unfrozen_of_block zq_
       have lq_ := lt_of_block zq_
       go_simp
       obtain ⟨Q1, hV_, sV_, x9, oV_, kV_⟩ := stored7 V2_6 (V2_3.heap.size) _ _ _ _ _ _ _ (.int .i64 r2.me) (.int .i64 r2.view) (.bool r2.live) (.int .i64 r2.nx) (.slice r2.ta r2.tk.length r2.tc) (.slice r2.ha r2.hd.length r2.hc) (.slice r2.da r2.dn.length r2.dc) zq_
       rw [← hV_]
       clear hV_
       replace R2 := Lib.hid (Rob.weak (X' := X1) (R2.out.stored sV_ oV_ (by first | exact .inr ⟨hg0_, hgl_⟩ | exact .inr ⟨Nat.le_refl _, hgl_⟩)) (by first | exact fun b hb => .inl hb | exact fun b hb => .inl (.inl hb)))
       replace S2 := Lib.hid (Rob.weak (X' := X1) (S2.out.stored sV_ oV_ (by first | exact .inr ⟨hg0_, hgl_⟩ | exact .inr ⟨Nat.le_refl _, hgl_⟩)) (by first | exact fun b hb => .inl hb | exact fun b hb => .inl (.inl hb)))
       have KQ := Lib.hid (hS.2.trans (kV_.mono hg0_))
       replace hS := KeptB.of KQ.out
       clear zq_ cq_ fq_ lq_ kV_ oV_ sV_ hgX
       refine hK.out _ _ (fun _ => hS) ?_
       clear hK K
       try simp only [Act.put, List.setIfInBounds_toArray, List.set]
       refine wpAnyL_take (i := 14) (oi := _) (v := ?_) (by (simp only [List.getElem?_toArray]; rfl)) (by kernel_rfl) (by kernel_rfl) (by kernel_rfl) (by kernel_rfl) (by exact fun _ _ _ h => h) (Or.inl ⟨by rfl, ?_⟩) (by assumption) ?_
       rotate_left
       ·
        intro wS hSw
        go_simp
        all_goals first | with_reducible rfl | rw [if_neg (by omega)]
       simp only [Act.put, List.setIfInBounds_toArray, List.set]
       refine wpAnyL_done (by kernel_rfl) ?_ _
       clear hS
       clear cx fx lx cl fl ll
       go_wp2_with fail
       go_meet
       exact ⟨V2_3.heap.size, r2, a4, c4, sy, rfl, rfl, hg0_, x9, R2.out, F2.out, S2.out, MF2.out, LN2.out, KQ.out⟩
      exact AllReadyL.nil
     refine AllReadyL.cons (o := _) (by (simp only [List.getElem?_toArray]; rfl)) (fun K hK => ?_) ?_
     ·
      skip
      go_simp
      obtain ⟨V2_3, hw_, sw_, hv_, kw_⟩ := blocks1 V2_2 (.cells #[.int .i64 0, .int .i64 0, .bool false, .int .i64 0, .slice none 0 0, .slice none 0 0, .slice none 0 0] 78)
      rw [← hw_]
      clear hw_
      have hgl_ : V2_2.heap.size < V2_3.heap.size := by omega
      have hg0_ : V2.heap.size ≤ V2_2.heap.size := Nat.le_trans hBW hS.2.size
      have hgX := Lib.hid (show BlkIs V2_2.heap.size #[.int .i64 0, .int .i64 0, .bool false, .int .i64 0, .slice none 0 0, .slice none 0 0, .slice none 0 0] 78 V2_3 from hv_)
      clear hv_ sw_
      have hRK : Below V2.heap.size V2 V2_3 := hS.2.trans (kw_.mono (Nat.le_trans hBW hS.2.size))
      clear hS
      have hS := KeptB.of hRK
      clear hRK
      replace HT := Lib.hid (HT.out.below kw_)
      replace RV := Lib.hid (RV.out.below kw_)
      clear kw_
      refine hK.out _ _ (fun _ => hS) ?_
      clear hK K
      try simp only [Act.put, List.setIfInBounds_toArray, List.set]
      refine wpAnyL_ready (rs := [4]) (by kernel_rfl) (by simp) ?_
      refine AllReadyL.cons (o := _) (by (simp only [List.getElem?_toArray]; rfl)) (fun K hK => ?_) AllReadyL.nil
      have hgq_ := hgX.out.lt
      refine step_append_newM V2_3.heap.size (by rfl) (.tmp 27) (.tmp 28) (by rfl) elmMg (by rfl) (by rfl) (fun z hz => mg_one ((HMSX.out _ (KW.out.trans (hS.2.mono KW.out.size))).2 z hz)) (HT.out) (by rfl) (by simp only [maxLen]; omega) (by omega) (Nat.le_refl _) ?_
      intro a2 c2 V2_4 q_
      have hq_ : V2.heap.size ≤ V2_3.heap.size := Nat.le_trans hBW hS.2.size
      have kw_ := q_.below
      have hRK : Below V2.heap.size V2 V2_4 := hS.2.trans (kw_.mono (Nat.le_trans hBW hS.2.size))
      clear hS
      have hS := KeptB.of hRK
      clear hRK
      replace HT := Lib.hid (HT.out.below kw_)
      replace RV := Lib.hid (RV.out.below kw_)
      replace hgX := Lib.hid (hgX.out.below kw_)
      clear kw_
      have RT := Lib.hid (q_.row.low hq_)
      have hgn := Lib.hid (show ∀ g', rowBlk a2 c2 = some g' → g' ≠ V2_2.heap.size from fun g' hg' => by have := q_.blk g' hg'; omega)
      clear q_ hq_
      refine hK.out _ _ (fun _ => hS) ?_
      clear hK K
      try simp only [Act.put, List.setIfInBounds_toArray, List.set]
      refine wpAnyL_ready (rs := [7]) (by kernel_rfl) (by simp) ?_
      refine AllReadyL.cons (o := _) (by (simp only [List.getElem?_toArray]; rfl)) (fun K hK => ?_) AllReadyL.nil
      refine step_append_elm (by rfl) (.tmp 29) (.tmp 31) (by rfl) (ms.length + 1) elmMg (by rfl) (by rfl) RT.out (fun z hz => by rw [List.mem_singleton.1 hz]; exact mg_one (MO.out.below hS.2).out) RV.out (by rfl) (by rfl) (by rfl) (by simp only [maxLen]; omega) (by omega) (Nat.le_trans hBW hS.2.size) ?_
      intro a3 c3 V2_5 q_
      have hrb_ : ∀ g, rowBlk _ _ = some g → V2.heap.size ≤ g := fun g hg => (RT.out.blk hg).1
      have hRK : Below V2.heap.size V2 V2_5 := hS.2.trans (q_.below (B' := V2.heap.size) (Nat.le_trans hBW hS.2.size) hrb_)
      clear hS
      have hS := KeptB.of hRK
      clear hRK
      have RT2 := Lib.hid (q_.row)
      replace hgX := Lib.hid (BlkIs.grown hgX.out q_.grown (fun g' hg' => hgn.out g' hg'))
      clear q_ hrb_
      refine hK.out _ _ (fun _ => hS) ?_
      clear hK K
      try simp only [Act.put, List.setIfInBounds_toArray, List.set]
      refine wpAnyL_ready (rs := [8]) (by kernel_rfl) (by simp) ?_
      refine AllReadyL.cons (o := _) (by (simp only [List.getElem?_toArray]; rfl)) (fun K hK => ?_) AllReadyL.nil
      have hgl_ := hgX.out.lt
      have IS := Lib.hid (show IsMs V2_5 (.slice a3 (ms.length + 1) c3) (ms ++ [m]) from ⟨by
       have h := RT2.out.sl eleven_len
       rw [List.length_append] at h
       exact h, fun z hz => (List.mem_append.1 hz).elim (fun h' => (HMSX.out _ (KW.out.trans (hS.2.mono KW.out.size))).2 z h') (fun h' => by rw [List.mem_singleton.1 h']; exact (MO.out.below hS.2).out)⟩)
      have MSF := Lib.hid (fit_snoc HMSF.out HMF.out)
      go_simp
      refine (l5Turned_c (Bx X1 V2.heap.size V2_5.heap.size) T D r1 _ _ m (ms ++ [m]) V2_5 (R1.out.box hS.2 _) F1.out (isMg_sl MV.out.1 MV.out.2 (MO.out.below hS.2).out) HMF.out IS.out MSF.out (Bx.lt (fun b hb => Nat.lt_of_lt_of_le (hlt b hb) hs) hS.2.size) hT).mono ?_
      rintro e V2_6 ⟨r2, a4, c4, sy, rfl, hr2, hf2, hsy2, hmf2, hln2, kw_⟩
      have hRK : Below V2.heap.size V2 V2_6 := hS.2.trans (kw_.mono (Nat.le_trans hBW hS.2.size))
      clear hS
      have hS := KeptB.of hRK
      clear hRK
      replace RT2 := Lib.hid (RT2.out.below kw_)
      replace hgX := Lib.hid (hgX.out.below kw_)
      clear kw_
      have R2 := Lib.hid hr2
      have F2 := Lib.hid hf2
      have S2 := Lib.hid hsy2
      have MF2 := Lib.hid hmf2
      have LN2 := Lib.hid hln2
      clear hr2 hf2 hsy2 hmf2 hln2 IS MSF
      refine hK.out _ _ (fun _ => hS) ?_
      clear hK K
      try simp only [Act.put, List.setIfInBounds_toArray, List.set]
      refine wpAnyL_take (i := 9) (oi := _) (v := ?_) (by (simp only [List.getElem?_toArray]; rfl)) (by kernel_rfl) (by kernel_rfl) (by kernel_rfl) (by kernel_rfl) (by exact fun _ _ _ h => h) (Or.inl ⟨by rfl, ?_⟩) (by assumption) ?_
      rotate_left
      ·
       intro wS hSw
       go_simp
       all_goals first | with_reducible rfl | rw [if_neg (by omega)]
      simp only [Act.put, List.setIfInBounds_toArray, List.set]
      refine wpAnyL_take (i := 10) (oi := _) (v := ?_) (by (simp only [List.getElem?_toArray]; rfl)) (by kernel_rfl) (by kernel_rfl) (by kernel_rfl) (by kernel_rfl) (by exact fun _ _ _ h => h) (Or.inl ⟨by rfl, ?_⟩) (by assumption) ?_
      rotate_left
      ·
       intro wS hSw
       go_simp
       all_goals first | with_reducible rfl | rw [if_neg (by omega)]
      simp only [Act.put, List.setIfInBounds_toArray, List.set]
      refine wpAnyL_take (i := 11) (oi := _) (v := ?_) (by (simp only [List.getElem?_toArray]; rfl)) (by kernel_rfl) (by kernel_rfl) (by kernel_rfl) (by kernel_rfl) (by exact fun _ _ _ h => h) (Or.inl ⟨by rfl, ?_⟩) (by assumption) ?_
      rotate_left
      ·
       intro wS hSw
       go_simp
       all_goals first | with_reducible rfl | rw [if_neg (by omega)]
      simp only [Act.put, List.setIfInBounds_toArray, List.set]
      refine wpAnyL_ready (rs := [13]) (by kernel_rfl) (by simp) ?_
      refine AllReadyL.cons (o := _) (by (simp only [List.getElem?_toArray]; rfl)) (fun K hK => ?_) AllReadyL.nil
      have zq_ := hgX.out
      unfold BlkIs at zq_
      have cq_ := cell_of_block zq_
      have fq_ := unfrozen_of_block zq_
      have lq_ := lt_of_block zq_
      go_simp
      obtain ⟨Q1, hV_, sV_, x9, oV_, kV_⟩ := stored7 V2_6 (V2_2.heap.size) _ _ _ _ _ _ _ (.int .i64 r2.me) (.int .i64 r2.view) (.bool r2.live) (.int .i64 r2.nx) (.slice r2.ta r2.tk.length r2.tc) (.slice r2.ha r2.hd.length r2.hc) (.slice r2.da r2.dn.length r2.dc) zq_
      rw [← hV_]
      clear hV_
      replace R2 := Lib.hid (Rob.weak (X' := X1) (R2.out.stored sV_ oV_ (by first | exact .inr ⟨hg0_, hgl_⟩ | exact .inr ⟨Nat.le_refl _, hgl_⟩)) (by first | exact fun b hb => .inl hb | exact fun b hb => .inl (.inl hb)))
      replace S2 := Lib.hid (Rob.weak (X' := X1) (S2.out.stored sV_ oV_ (by first | exact .inr ⟨hg0_, hgl_⟩ | exact .inr ⟨Nat.le_refl _, hgl_⟩)) (by first | exact fun b hb => .inl hb | exact fun b hb => .inl (.inl hb)))
      have KQ := Lib.hid (hS.2.trans (kV_.mono hg0_))
      replace hS := KeptB.of KQ.out
      clear zq_ cq_ fq_ lq_ kV_ oV_ sV_ hgX
      refine hK.out _ _ (fun _ => hS) ?_
      clear hK K
      try simp only [Act.put, List.setIfInBounds_toArray, List.set]
      refine wpAnyL_take (i := 14) (oi := _) (v := ?_) (by (simp only [List.getElem?_toArray]; rfl)) (by kernel_rfl) (by kernel_rfl) (by kernel_rfl) (by kernel_rfl) (by exact fun _ _ _ h => h) (Or.inl ⟨by rfl, ?_⟩) (by assumption) ?_
      rotate_left
      ·
       intro wS hSw
       go_simp
       all_goals first | with_reducible rfl | rw [if_neg (by omega)]
      simp only [Act.put, List.setIfInBounds_toArray, List.set]
      refine wpAnyL_done (by kernel_rfl) ?_ _
      clear hS
      clear cx fx lx cl fl ll
      go_wp2_with fail
      go_meet
      exact ⟨V2_2.heap.size, r2, a4, c4, sy, rfl, rfl, hg0_, x9, R2.out, F2.out, S2.out, MF2.out, LN2.out, KQ.out⟩
     exact AllReadyL.nil
    refine AllReadyL.cons (o := _) (by (simp only [List.getElem?_toArray]; rfl)) (fun K hK => ?_) ?_
    ·
     skip
     go_simp
     obtain ⟨V2_2, hw_, sw_, hv_, kw_⟩ := blocks1 V2_1 (.cells #[.int .i64 0, .int .i64 0, .bool false, .int .i64 0, .slice none 0 0, .slice none 0 0, .slice none 0 0] 78)
     rw [← hw_]
     clear hw_
     have hgl_ : V2_1.heap.size < V2_2.heap.size := by omega
     have hg0_ : V2.heap.size ≤ V2_1.heap.size := Nat.le_trans hBW hS.2.size
     have hgX := Lib.hid (show BlkIs V2_1.heap.size #[.int .i64 0, .int .i64 0, .bool false, .int .i64 0, .slice none 0 0, .slice none 0 0, .slice none 0 0] 78 V2_2 from hv_)
     clear hv_ sw_
     have hRK : Below V2.heap.size V2 V2_2 := hS.2.trans (kw_.mono (Nat.le_trans hBW hS.2.size))
     clear hS
     have hS := KeptB.of hRK
     clear hRK
     replace HT := Lib.hid (HT.out.below kw_)
     replace RV := Lib.hid (RV.out.below kw_)
     clear kw_
     refine hK.out _ _ (fun _ => hS) ?_
     clear hK K
     try simp only [Act.put, List.setIfInBounds_toArray, List.set]
     refine wpAnyL_ready (rs := [2]) (by kernel_rfl) (by simp) ?_
     refine AllReadyL.cons (o := _) (by (simp only [List.getElem?_toArray]; rfl)) (fun K hK => ?_) AllReadyL.nil
     refine step_build0M (by rfl) (by rfl) elmMg ?_
     obtain ⟨V2_3, hw_, kw_⟩ : ∃ V, V = V2_2.alloc (.cells #[] 34) ∧ Below V2_2.heap.size V2_2 V := ⟨_, rfl, (Below.refl _ _).alloc (Nat.le_refl _) _⟩
     rw [← hw_]
     clear hw_
     have hRK : Below V2.heap.size V2 V2_3 := hS.2.trans (kw_.mono (Nat.le_trans hBW hS.2.size))
     clear hS
     have hS := KeptB.of hRK
     clear hRK
     replace HT := Lib.hid (HT.out.below kw_)
     replace RV := Lib.hid (RV.out.below kw_)
     replace hgX := Lib.hid (hgX.out.below kw_)
     clear kw_
     refine hK.out _ _ (fun _ => hS) ?_
     clear hK K
     try simp only [Act.put, List.setIfInBounds_toArray, List.set]
     refine wpAnyL_ready (rs := [4]) (by kernel_rfl) (by simp) ?_
     refine AllReadyL.cons (o := _) (by (simp only [List.getElem?_toArray]; rfl)) (fun K hK => ?_) AllReadyL.nil
     have hgq_ := hgX.out.lt
     refine step_append_newM V2_3.heap.size (by rfl) (.tmp 27) (.tmp 28) (by rfl) elmMg (by rfl) (by rfl) (fun z hz => mg_one ((HMSX.out _ (KW.out.trans (hS.2.mono KW.out.size))).2 z hz)) (HT.out) (by rfl) (by simp only [maxLen]; omega) (by omega) (Nat.le_refl _) ?_
     intro a2 c2 V2_4 q_
     have hq_ : V2.heap.size ≤ V2_3.heap.size := Nat.le_trans hBW hS.2.size
     have kw_ := q_.below
     have hRK : Below V2.heap.size V2 V2_4 := hS.2.trans (kw_.mono (Nat.le_trans hBW hS.2.size))
     clear hS
     have hS := KeptB.of hRK
     clear hRK
     replace HT := Lib.hid (HT.out.below kw_)
     replace RV := Lib.hid (RV.out.below kw_)
     replace hgX := Lib.hid (hgX.out.below kw_)
     clear kw_
     have RT := Lib.hid (q_.row.low hq_)
     have hgn := Lib.hid (show ∀ g', rowBlk a2 c2 = some g' → g' ≠ V2_1.heap.size from fun g' hg' => by have := q_.blk g' hg'; omega)
     clear q_ hq_
     refine hK.out _ _ (fun _ => hS) ?_
     clear hK K
     try simp only [Act.put, List.setIfInBounds_toArray, List.set]
     refine wpAnyL_ready (rs := [7]) (by kernel_rfl) (by simp) ?_
     refine AllReadyL.cons (o := _) (by (simp only [List.getElem?_toArray]; rfl)) (fun K hK => ?_) AllReadyL.nil
     refine step_append_elm (by rfl) (.tmp 29) (.tmp 31) (by rfl) (ms.length + 1) elmMg (by rfl) (by rfl) RT.out (fun z hz => by rw [List.mem_singleton.1 hz]; exact mg_one (MO.out.below hS.2).out) RV.out (by rfl) (by rfl) (by rfl) (by simp only [maxLen]; omega) (by omega) (Nat.le_trans hBW hS.2.size) ?_
     intro a3 c3 V2_5 q_
     have hrb_ : ∀ g, rowBlk _ _ = some g → V2.heap.size ≤ g := fun g hg => (RT.out.blk hg).1
     have hRK : Below V2.heap.size V2 V2_5 := hS.2.trans (q_.below (B' := V2.heap.size) (Nat.le_trans hBW hS.2.size) hrb_)
     clear hS
     have hS := KeptB.of hRK
     clear hRK
     have RT2 := Lib.hid (q_.row)
     replace hgX := Lib.hid (BlkIs.grown hgX.out q_.grown (fun g' hg' => hgn.out g' hg'))
     clear q_ hrb_
     refine hK.out _ _ (fun _ => hS) ?_
     clear hK K
     try simp only [Act.put, List.setIfInBounds_toArray, List.set]
     refine wpAnyL_ready (rs := [8]) (by kernel_rfl) (by simp) ?_
     refine AllReadyL.cons (o := _) (by (simp only [List.getElem?_toArray]; rfl)) (fun K hK => ?_) AllReadyL.nil
     have hgl_ := hgX.out.lt
     have IS := Lib.hid (show IsMs V2_5 (.slice a3 (ms.length + 1) c3) (ms ++ [m]) from ⟨by
      have h := RT2.out.sl eleven_len
      rw [List.length_append] at h
      exact h, fun z hz => (List.mem_append.1 hz).elim (fun h' => (HMSX.out _ (KW.out.trans (hS.2.mono KW.out.size))).2 z h') (fun h' => by rw [List.mem_singleton.1 h']; exact (MO.out.below hS.2).out)⟩)
     have MSF := Lib.hid (fit_snoc HMSF.out HMF.out)
     go_simp
     refine (l5Turned_c (Bx X1 V2.heap.size V2_5.heap.size) T D r1 _ _ m (ms ++ [m]) V2_5 (R1.out.box hS.2 _) F1.out (isMg_sl MV.out.1 MV.out.2 (MO.out.below hS.2).out) HMF.out IS.out MSF.out (Bx.lt (fun b hb => Nat.lt_of_lt_of_le (hlt b hb) hs) hS.2.size) hT).mono ?_
     rintro e V2_6 ⟨r2, a4, c4, sy, rfl, hr2, hf2, hsy2, hmf2, hln2, kw_⟩
     have hRK : Below V2.heap.size V2 V2_6 := hS.2.trans (kw_.mono (Nat.le_trans hBW hS.2.size))
     clear hS
     have hS := KeptB.of hRK
     clear hRK
     replace RT2 := Lib.hid (RT2.out.below kw_)
     replace hgX := Lib.hid (hgX.out.below kw_)
     clear kw_
     have R2 := Lib.hid hr2
     have F2 := Lib.hid hf2
     have S2 := Lib.hid hsy2
     have MF2 := Lib.hid hmf2
     have LN2 := Lib.hid hln2
     clear hr2 hf2 hsy2 hmf2 hln2 IS MSF
     refine hK.out _ _ (fun _ => hS) ?_
     clear hK K
     try simp only [Act.put, List.setIfInBounds_toArray, List.set]
     refine wpAnyL_take (i := 9) (oi := _) (v := ?_) (by (simp only [List.getElem?_toArray]; rfl)) (by kernel_rfl) (by kernel_rfl) (by kernel_rfl) (by kernel_rfl) (by exact fun _ _ _ h => h) (Or.inl ⟨by rfl, ?_⟩) (by assumption) ?_
     rotate_left
     ·
      intro wS hSw
      go_simp
      all_goals first | with_reducible rfl | rw [if_neg (by omega)]
     simp only [Act.put, List.setIfInBounds_toArray, List.set]
     refine wpAnyL_take (i := 10) (oi := _) (v := ?_) (by (simp only [List.getElem?_toArray]; rfl)) (by kernel_rfl) (by kernel_rfl) (by kernel_rfl) (by kernel_rfl) (by exact fun _ _ _ h => h) (Or.inl ⟨by rfl, ?_⟩) (by assumption) ?_
     rotate_left
     ·
      intro wS hSw
      go_simp
      all_goals first | with_reducible rfl | rw [if_neg (by omega)]
     simp only [Act.put, List.setIfInBounds_toArray, List.set]
     refine wpAnyL_take (i := 11) (oi := _) (v := ?_) (by (simp only [List.getElem?_toArray]; rfl)) (by kernel_rfl) (by kernel_rfl) (by kernel_rfl) (by kernel_rfl) (by exact fun _ _ _ h => h) (Or.inl ⟨by rfl, ?_⟩) (by assumption) ?_
     rotate_left
     ·
      intro wS hSw
      go_simp
      all_goals first | with_reducible rfl | rw [if_neg (by omega)]
     simp only [Act.put, List.setIfInBounds_toArray, List.set]
     refine wpAnyL_ready (rs := [13]) (by kernel_rfl) (by simp) ?_
     refine AllReadyL.cons (o := _) (by (simp only [List.getElem?_toArray]; rfl)) (fun K hK => ?_) AllReadyL.nil
     have zq_ := hgX.out
     unfold BlkIs at zq_
     have cq_ := cell_of_block zq_
     have fq_ := unfrozen_of_block zq_
     have lq_ := lt_of_block zq_
     go_simp
     obtain ⟨Q1, hV_, sV_, x9, oV_, kV_⟩ := stored7 V2_6 (V2_1.heap.size) _ _ _ _ _ _ _ (.int .i64 r2.me) (.int .i64 r2.view) (.bool r2.live) (.int .i64 r2.nx) (.slice r2.ta r2.tk.length r2.tc) (.slice r2.ha r2.hd.length r2.hc) (.slice r2.da r2.dn.length r2.dc) zq_
     rw [← hV_]
     clear hV_
     replace R2 := Lib.hid (Rob.weak (X' := X1) (R2.out.stored sV_ oV_ (by first | exact .inr ⟨hg0_, hgl_⟩ | exact .inr ⟨Nat.le_refl _, hgl_⟩)) (by first | exact fun b hb => .inl hb | exact fun b hb => .inl (.inl hb)))
     replace S2 := Lib.hid (Rob.weak (X' := X1) (S2.out.stored sV_ oV_ (by first | exact .inr ⟨hg0_, hgl_⟩ | exact .inr ⟨Nat.le_refl _, hgl_⟩)) (by first | exact fun b hb => .inl hb | exact fun b hb => .inl (.inl hb)))
     have KQ := Lib.hid (hS.2.trans (kV_.mono hg0_))
     replace hS := KeptB.of KQ.out
     clear zq_ cq_ fq_ lq_ kV_ oV_ sV_ hgX
     refine hK.out _ _ (fun _ => hS) ?_
     clear hK K
     try simp only [Act.put, List.setIfInBounds_toArray, List.set]
     refine wpAnyL_take (i := 14) (oi := _) (v := ?_) (by (simp only [List.getElem?_toArray]; rfl)) (by kernel_rfl) (by kernel_rfl) (by kernel_rfl) (by kernel_rfl) (by exact fun _ _ _ h => h) (Or.inl ⟨by rfl, ?_⟩) (by assumption) ?_
     rotate_left
     ·
      intro wS hSw
      go_simp
      all_goals first | with_reducible rfl | rw [if_neg (by omega)]
     simp only [Act.put, List.setIfInBounds_toArray, List.set]
     refine wpAnyL_done (by kernel_rfl) ?_ _
     clear hS
     clear cx fx lx cl fl ll
     go_wp2_with fail
     go_meet
     exact ⟨V2_1.heap.size, r2, a4, c4, sy, rfl, rfl, hg0_, x9, R2.out, F2.out, S2.out, MF2.out, LN2.out, KQ.out⟩
    exact AllReadyL.nil
   refine AllReadyL.cons (o := _) (by (simp only [List.getElem?_toArray]; rfl)) (fun K hK => ?_) ?_
   ·
    skip
    go_simp
    obtain ⟨V2_1, hw_, sw_, hv_, kw_⟩ := blocks1 V2_0 (.cells #[.int .i64 0, .int .i64 0, .bool false, .int .i64 0, .slice none 0 0, .slice none 0 0, .slice none 0 0] 78)
    rw [← hw_]
    clear hw_
    have hgl_ : V2_0.heap.size < V2_1.heap.size := by omega
    have hg0_ : V2.heap.size ≤ V2_0.heap.size := Nat.le_trans hBW hS.2.size
    have hgX := Lib.hid (show BlkIs V2_0.heap.size #[.int .i64 0, .int .i64 0, .bool false, .int .i64 0, .slice none 0 0, .slice none 0 0, .slice none 0 0] 78 V2_1 from hv_)
    clear hv_ sw_
    have hRK : Below V2.heap.size V2 V2_1 := hS.2.trans (kw_.mono (Nat.le_trans hBW hS.2.size))
    clear hS
    have hS := KeptB.of hRK
    clear hRK
    replace HT := Lib.hid (HT.out.below kw_)
    clear kw_
    refine hK.out _ _ (fun _ => hS) ?_
    clear hK K
    try simp only [Act.put, List.setIfInBounds_toArray, List.set]
    refine wpAnyL_ready (rs := [2, 6]) (by kernel_rfl) (by simp) ?_
    refine AllReadyL.cons (o := _) (by (simp only [List.getElem?_toArray]; rfl)) (fun K hK => ?_) ?_
    ·
     skip
     refine step_build0M (by rfl) (by rfl) elmMg ?_
     obtain ⟨V2_2, hw_, kw_⟩ : ∃ V, V = V2_1.alloc (.cells #[] 34) ∧ Below V2_1.heap.size V2_1 V := ⟨_, rfl, (Below.refl _ _).alloc (Nat.le_refl _) _⟩
     rw [← hw_]
     clear hw_
     have hRK : Below V2.heap.size V2 V2_2 := hS.2.trans (kw_.mono (Nat.le_trans hBW hS.2.size))
     clear hS
     have hS := KeptB.of hRK
     clear hRK
     replace HT := Lib.hid (HT.out.below kw_)
     replace hgX := Lib.hid (hgX.out.below kw_)
     clear kw_
     refine hK.out _ _ (fun _ => hS) ?_
     clear hK K
     try simp only [Act.put, List.setIfInBounds_toArray, List.set]
     refine wpAnyL_ready (rs := [4, 6]) (by kernel_rfl) (by simp) ?_
     refine AllReadyL.cons (o := _) (by (simp only [List.getElem?_toArray]; rfl)) (fun K hK => ?_) ?_
     ·
      skip
      have hgq_ := hgX.out.lt
      refine step_append_newM V2_2.heap.size (by rfl) (.tmp 27) (.tmp 28) (by rfl) elmMg (by rfl) (by rfl) (fun z hz => mg_one ((HMSX.out _ (KW.out.trans (hS.2.mono KW.out.size))).2 z hz)) (HT.out) (by rfl) (by simp only [maxLen]; omega) (by omega) (Nat.le_refl _) ?_
      intro a2 c2 V2_3 q_
      have hq_ : V2.heap.size ≤ V2_2.heap.size := Nat.le_trans hBW hS.2.size
      have kw_ := q_.below
      have hRK : Below V2.heap.size V2 V2_3 := hS.2.trans (kw_.mono (Nat.le_trans hBW hS.2.size))
      clear hS
      have hS := KeptB.of hRK
      clear hRK
      replace HT := Lib.hid (HT.out.below kw_)
      replace hgX := Lib.hid (hgX.out.below kw_)
      clear kw_
      have RT := Lib.hid (q_.row.low hq_)
      have hgn := Lib.hid (show ∀ g', rowBlk a2 c2 = some g' → g' ≠ V2_0.heap.size from fun g' hg' => by have := q_.blk g' hg'; omega)
      clear q_ hq_
      refine hK.out _ _ (fun _ => hS) ?_
      clear hK K
      try simp only [Act.put, List.setIfInBounds_toArray, List.set]
      refine wpAnyL_ready (rs := [6]) (by kernel_rfl) (by simp) ?_
      refine AllReadyL.cons (o := _) (by (simp only [List.getElem?_toArray]; rfl)) (fun K hK => ?_) AllReadyL.nil
      go_simp
      obtain ⟨V2_4, hw_, sw_, hv_, kw_⟩ := blocks1 V2_3 (.cells #[.int .i64 m.k, .int .i64 m.f, .int .i64 m.v, .int .i64 m.s, .int .i64 m.r.c, .int .i64 m.r.n, .int .i64 m.r.o, .int .i64 m.r.x, .int .i64 m.r.y, .slice a1 m.cl.length c1, .slice b1 m.vs.length d1] 34)
      rw [← hw_]
      clear hw_ sw_
      have hRK : Below V2.heap.size V2 V2_4 := hS.2.trans (kw_.mono (Nat.le_trans hBW hS.2.size))
      clear hS
      have hS := KeptB.of hRK
      clear hRK
      replace HT := Lib.hid (HT.out.below kw_)
      replace hgX := Lib.hid (hgX.out.below kw_)
      replace RT := Lib.hid (RT.out.below kw_)
      clear kw_
      have RV := Lib.hid (show RowsAt V2_4 (some ⟨V2_3.heap.size, 0, none⟩) 11 Mg.cs [m] from rows_of_block (R := Mg.cs) (zs := [m]) eleven_len (by rw [flat_m MV.out.1 MV.out.2]; exact hv_))
      clear hv_
      refine hK.out _ _ (fun _ => hS) ?_
      clear hK K
      try simp only [Act.put, List.setIfInBounds_toArray, List.set]
      refine wpAnyL_ready (rs := [7]) (by kernel_rfl) (by simp) ?_
      refine AllReadyL.cons (o := _) (by (simp only [List.getElem?_toArray]; rfl)) (fun K hK => ?_) AllReadyL.nil
      refine step_append_elm (by rfl) (.tmp 29) (.tmp 31) (by rfl) (ms.length + 1) elmMg (by rfl) (by rfl) RT.out (fun z hz => by rw [List.mem_singleton.1 hz]; exact mg_one (MO.out.below hS.2).out) RV.out (by rfl) (by rfl) (by rfl) (by simp only [maxLen]; omega) (by omega) (Nat.le_trans hBW hS.2.size) ?_
      intro a3 c3 V2_5 q_
      have hrb_ : ∀ g, rowBlk _ _ = some g → V2.heap.size ≤ g := fun g hg => (RT.out.blk hg).1
      have hRK : Below V2.heap.size V2 V2_5 := hS.2.trans (q_.below (B' := V2.heap.size) (Nat.le_trans hBW hS.2.size) hrb_)
      clear hS
      have hS := KeptB.of hRK
      clear hRK
      have RT2 := Lib.hid (q_.row)
      replace hgX := Lib.hid (BlkIs.grown hgX.out q_.grown (fun g' hg' => hgn.out g' hg'))
      clear q_ hrb_
      refine hK.out _ _ (fun _ => hS) ?_
      clear hK K
      try simp only [Act.put, List.setIfInBounds_toArray, List.set]
      refine wpAnyL_ready (rs := [8]) (by kernel_rfl) (by simp) ?_
      refine AllReadyL.cons (o := _) (by (simp only [List.getElem?_toArray]; rfl)) (fun K hK => ?_) AllReadyL.nil
      have hgl_ := hgX.out.lt
      have IS := Lib.hid (show IsMs V2_5 (.slice a3 (ms.length + 1) c3) (ms ++ [m]) from ⟨by
       have h := RT2.out.sl eleven_len
       rw [List.length_append] at h
       exact h, fun z hz => (List.mem_append.1 hz).elim (fun h' => (HMSX.out _ (KW.out.trans (hS.2.mono KW.out.size))).2 z h') (fun h' => by rw [List.mem_singleton.1 h']; exact (MO.out.below hS.2).out)⟩)
      have MSF := Lib.hid (fit_snoc HMSF.out HMF.out)
      go_simp
      refine (l5Turned_c (Bx X1 V2.heap.size V2_5.heap.size) T D r1 _ _ m (ms ++ [m]) V2_5 (R1.out.box hS.2 _) F1.out (isMg_sl MV.out.1 MV.out.2 (MO.out.below hS.2).out) HMF.out IS.out MSF.out (Bx.lt (fun b hb => Nat.lt_of_lt_of_le (hlt b hb) hs) hS.2.size) hT).mono ?_
      rintro e V2_6 ⟨r2, a4, c4, sy, rfl, hr2, hf2, hsy2, hmf2, hln2, kw_⟩
      have hRK : Below V2.heap.size V2 V2_6 := hS.2.trans (kw_.mono (Nat.le_trans hBW hS.2.size))
      clear hS
      have hS := KeptB.of hRK
      clear hRK
      replace RT2 := Lib.hid (RT2.out.below kw_)
      replace hgX := Lib.hid (hgX.out.below kw_)
      clear kw_
      have R2 := Lib.hid hr2
      have F2 := Lib.hid hf2
      have S2 := Lib.hid hsy2
      have MF2 := Lib.hid hmf2
      have LN2 := Lib.hid hln2
      clear hr2 hf2 hsy2 hmf2 hln2 IS MSF
      refine hK.out _ _ (fun _ => hS) ?_
      clear hK K
      try simp only [Act.put, List.setIfInBounds_toArray, List.set]
      refine wpAnyL_take (i := 9) (oi := _) (v := ?_) (by (simp only [List.getElem?_toArray]; rfl)) (by kernel_rfl) (by kernel_rfl) (by kernel_rfl) (by kernel_rfl) (by exact fun _ _ _ h => h) (Or.inl ⟨by rfl, ?_⟩) (by assumption) ?_
      rotate_left
      ·
       intro wS hSw
       go_simp
       all_goals first | with_reducible rfl | rw [if_neg (by omega)]
      simp only [Act.put, List.setIfInBounds_toArray, List.set]
      refine wpAnyL_take (i := 10) (oi := _) (v := ?_) (by (simp only [List.getElem?_toArray]; rfl)) (by kernel_rfl) (by kernel_rfl) (by kernel_rfl) (by kernel_rfl) (by exact fun _ _ _ h => h) (Or.inl ⟨by rfl, ?_⟩) (by assumption) ?_
      rotate_left
      ·
       intro wS hSw
       go_simp
       all_goals first | with_reducible rfl | rw [if_neg (by omega)]
      simp only [Act.put, List.setIfInBounds_toArray, List.set]
      refine wpAnyL_take (i := 11) (oi := _) (v := ?_) (by (simp only [List.getElem?_toArray]; rfl)) (by kernel_rfl) (by kernel_rfl) (by kernel_rfl) (by kernel_rfl) (by exact fun _ _ _ h => h) (Or.inl ⟨by rfl, ?_⟩) (by assumption) ?_
      rotate_left
      ·
       intro wS hSw
       go_simp
       all_goals first | with_reducible rfl | rw [if_neg (by omega)]
      simp only [Act.put, List.setIfInBounds_toArray, List.set]
      refine wpAnyL_ready (rs := [13]) (by kernel_rfl) (by simp) ?_
      refine AllReadyL.cons (o := _) (by (simp only [List.getElem?_toArray]; rfl)) (fun K hK => ?_) AllReadyL.nil
      have zq_ := hgX.out
      unfold BlkIs at zq_
      have cq_ := cell_of_block zq_
      have fq_ := unfrozen_of_block zq_
      have lq_ := lt_of_block zq_
      go_simp
      obtain ⟨Q1, hV_, sV_, x9, oV_, kV_⟩ := stored7 V2_6 (V2_0.heap.size) _ _ _ _ _ _ _ (.int .i64 r2.me) (.int .i64 r2.view) (.bool r2.live) (.int .i64 r2.nx) (.slice r2.ta r2.tk.length r2.tc) (.slice r2.ha r2.hd.length r2.hc) (.slice r2.da r2.dn.length r2.dc) zq_
      rw [← hV_]
      clear hV_
      replace R2 := Lib.hid (Rob.weak (X' := X1) (R2.out.stored sV_ oV_ (by first | exact .inr ⟨hg0_, hgl_⟩ | exact .inr ⟨Nat.le_refl _, hgl_⟩)) (by first | exact fun b hb => .inl hb | exact fun b hb => .inl (.inl hb)))
      replace S2 := Lib.hid (Rob.weak (X' := X1) (S2.out.stored sV_ oV_ (by first | exact .inr ⟨hg0_, hgl_⟩ | exact .inr ⟨Nat.le_refl _, hgl_⟩)) (by first | exact fun b hb => .inl hb | exact fun b hb => .inl (.inl hb)))
      have KQ := Lib.hid (hS.2.trans (kV_.mono hg0_))
      replace hS := KeptB.of KQ.out
      clear zq_ cq_ fq_ lq_ kV_ oV_ sV_ hgX
      refine hK.out _ _ (fun _ => hS) ?_
      clear hK K
      try simp only [Act.put, List.setIfInBounds_toArray, List.set]
      refine wpAnyL_take (i := 14) (oi := _) (v := ?_) (by (simp only [List.getElem?_toArray]; rfl)) (by kernel_rfl) (by kernel_rfl) (by kernel_rfl) (by kernel_rfl) (by exact fun _ _ _ h => h) (Or.inl ⟨by rfl, ?_⟩) (by assumption) ?_
      rotate_left
      ·
       intro wS hSw
       go_simp
       all_goals first | with_reducible rfl | rw [if_neg (by omega)]
      simp only [Act.put, List.setIfInBounds_toArray, List.set]
      refine wpAnyL_done (by kernel_rfl) ?_ _
      clear hS
      clear cx fx lx cl fl ll
      go_wp2_with fail
      go_meet
      exact ⟨V2_0.heap.size, r2, a4, c4, sy, rfl, rfl, hg0_, x9, R2.out, F2.out, S2.out, MF2.out, LN2.out, KQ.out⟩
     refine AllReadyL.cons (o := _) (by (simp only [List.getElem?_toArray]; rfl)) (fun K hK => ?_) ?_
     ·
      skip
      go_simp
      obtain ⟨V2_3, hw_, sw_, hv_, kw_⟩ := blocks1 V2_2 (.cells #[.int .i64 m.k, .int .i64 m.f, .int .i64 m.v, .int .i64 m.s, .int .i64 m.r.c, .int .i64 m.r.n, .int .i64 m.r.o, .int .i64 m.r.x, .int .i64 m.r.y, .slice a1 m.cl.length c1, .slice b1 m.vs.length d1] 34)
      rw [← hw_]
      clear hw_ sw_
      have hRK : Below V2.heap.size V2 V2_3 := hS.2.trans (kw_.mono (Nat.le_trans hBW hS.2.size))
      clear hS
      have hS := KeptB.of hRK
      clear hRK
      replace HT := Lib.hid (HT.out.below kw_)
      replace hgX := Lib.hid (hgX.out.below kw_)
      clear kw_
      have RV := Lib.hid (show RowsAt V2_3 (some ⟨V2_2.heap.size, 0, none⟩) 11 Mg.cs [m] from rows_of_block (R := Mg.cs) (zs := [m]) eleven_len (by rw [flat_m MV.out.1 MV.out.2]; exact hv_))
      clear hv_
      refine hK.out _ _ (fun _ => hS) ?_
      clear hK K
      try simp only [Act.put, List.setIfInBounds_toArray, List.set]
      refine wpAnyL_ready (rs := [4]) (by kernel_rfl) (by simp) ?_
      refine AllReadyL.cons (o := _) (by (simp only [List.getElem?_toArray]; rfl)) (fun K hK => ?_) AllReadyL.nil
      have hgq_ := hgX.out.lt
      refine step_append_newM V2_3.heap.size (by rfl) (.tmp 27) (.tmp 28) (by rfl) elmMg (by rfl) (by rfl) (fun z hz => mg_one ((HMSX.out _ (KW.out.trans (hS.2.mono KW.out.size))).2 z hz)) (HT.out) (by rfl) (by simp only [maxLen]; omega) (by omega) (Nat.le_refl _) ?_
      intro a2 c2 V2_4 q_
      have hq_ : V2.heap.size ≤ V2_3.heap.size := Nat.le_trans hBW hS.2.size
      have kw_ := q_.below
      have hRK : Below V2.heap.size V2 V2_4 := hS.2.trans (kw_.mono (Nat.le_trans hBW hS.2.size))
      clear hS
      have hS := KeptB.of hRK
      clear hRK
      replace HT := Lib.hid (HT.out.below kw_)
      replace hgX := Lib.hid (hgX.out.below kw_)
      replace RV := Lib.hid (RV.out.below kw_)
      clear kw_
      have RT := Lib.hid (q_.row.low hq_)
      have hgn := Lib.hid (show ∀ g', rowBlk a2 c2 = some g' → g' ≠ V2_0.heap.size from fun g' hg' => by have := q_.blk g' hg'; omega)
      clear q_ hq_
      refine hK.out _ _ (fun _ => hS) ?_
      clear hK K
      try simp only [Act.put, List.setIfInBounds_toArray, List.set]
      refine wpAnyL_ready (rs := [7]) (by kernel_rfl) (by simp) ?_
      refine AllReadyL.cons (o := _) (by (simp only [List.getElem?_toArray]; rfl)) (fun K hK => ?_) AllReadyL.nil
      refine step_append_elm (by rfl) (.tmp 29) (.tmp 31) (by rfl) (ms.length + 1) elmMg (by rfl) (by rfl) RT.out (fun z hz => by rw [List.mem_singleton.1 hz]; exact mg_one (MO.out.below hS.2).out) RV.out (by rfl) (by rfl) (by rfl) (by simp only [maxLen]; omega) (by omega) (Nat.le_trans hBW hS.2.size) ?_
      intro a3 c3 V2_5 q_
      have hrb_ : ∀ g, rowBlk _ _ = some g → V2.heap.size ≤ g := fun g hg => (RT.out.blk hg).1
      have hRK : Below V2.heap.size V2 V2_5 := hS.2.trans (q_.below (B' := V2.heap.size) (Nat.le_trans hBW hS.2.size) hrb_)
      clear hS
      have hS := KeptB.of hRK
      clear hRK
      have RT2 := Lib.hid (q_.row)
      replace hgX := Lib.hid (BlkIs.grown hgX.out q_.grown (fun g' hg' => hgn.out g' hg'))
      clear q_ hrb_
      refine hK.out _ _ (fun _ => hS) ?_
      clear hK K
      try simp only [Act.put, List.setIfInBounds_toArray, List.set]
      refine wpAnyL_ready (rs := [8]) (by kernel_rfl) (by simp) ?_
      refine AllReadyL.cons (o := _) (by (simp only [List.getElem?_toArray]; rfl)) (fun K hK => ?_) AllReadyL.nil
      have hgl_ := hgX.out.lt
      have IS := Lib.hid (show IsMs V2_5 (.slice a3 (ms.length + 1) c3) (ms ++ [m]) from ⟨by
       have h := RT2.out.sl eleven_len
       rw [List.length_append] at h
       exact h, fun z hz => (List.mem_append.1 hz).elim (fun h' => (HMSX.out _ (KW.out.trans (hS.2.mono KW.out.size))).2 z h') (fun h' => by rw [List.mem_singleton.1 h']; exact (MO.out.below hS.2).out)⟩)
      have MSF := Lib.hid (fit_snoc HMSF.out HMF.out)
      go_simp
      refine (l5Turned_c (Bx X1 V2.heap.size V2_5.heap.size) T D r1 _ _ m (ms ++ [m]) V2_5 (R1.out.box hS.2 _) F1.out (isMg_sl MV.out.1 MV.out.2 (MO.out.below hS.2).out) HMF.out IS.out MSF.out (Bx.lt (fun b hb => Nat.lt_of_lt_of_le (hlt b hb) hs) hS.2.size) hT).mono ?_
      rintro e V2_6 ⟨r2, a4, c4, sy, rfl, hr2, hf2, hsy2, hmf2, hln2, kw_⟩
      have hRK : Below V2.heap.size V2 V2_6 := hS.2.trans (kw_.mono (Nat.le_trans hBW hS.2.size))
      clear hS
      have hS := KeptB.of hRK
      clear hRK
      replace RT2 := Lib.hid (RT2.out.below kw_)
      replace hgX := Lib.hid (hgX.out.below kw_)
      clear kw_
      have R2 := Lib.hid hr2
      have F2 := Lib.hid hf2
      have S2 := Lib.hid hsy2
      have MF2 := Lib.hid hmf2
      have LN2 := Lib.hid hln2
      clear hr2 hf2 hsy2 hmf2 hln2 IS MSF
      refine hK.out _ _ (fun _ => hS) ?_
      clear hK K
      try simp only [Act.put, List.setIfInBounds_toArray, List.set]
      refine wpAnyL_take (i := 9) (oi := _) (v := ?_) (by (simp only [List.getElem?_toArray]; rfl)) (by kernel_rfl) (by kernel_rfl) (by kernel_rfl) (by kernel_rfl) (by exact fun _ _ _ h => h) (Or.inl ⟨by rfl, ?_⟩) (by assumption) ?_
      rotate_left
      ·
       intro wS hSw
       go_simp
       all_goals first | with_reducible rfl | rw [if_neg (by omega)]
      simp only [Act.put, List.setIfInBounds_toArray, List.set]
      refine wpAnyL_take (i := 10) (oi := _) (v := ?_) (by (simp only [List.getElem?_toArray]; rfl)) (by kernel_rfl) (by kernel_rfl) (by kernel_rfl) (by kernel_rfl) (by exact fun _ _ _ h => h) (Or.inl ⟨by rfl, ?_⟩) (by assumption) ?_
      rotate_left
      ·
       intro wS hSw
       go_simp
       all_goals first | with_reducible rfl | rw [if_neg (by omega)]
      simp only [Act.put, List.setIfInBounds_toArray, List.set]
      refine wpAnyL_take (i := 11) (oi := _) (v := ?_) (by (simp only [List.getElem?_toArray]; rfl)) (by kernel_rfl) (by kernel_rfl) (by kernel_rfl) (by kernel_rfl) (by exact fun _ _ _ h => h) (Or.inl ⟨by rfl, ?_⟩) (by assumption) ?_
      rotate_left
      ·
       intro wS hSw
       go_simp
       all_goals first | with_reducible rfl | rw [if_neg (by omega)]
      simp only [Act.put, List.setIfInBounds_toArray, List.set]
      refine wpAnyL_ready (rs := [13]) (by kernel_rfl) (by simp) ?_
      refine AllReadyL.cons (o := _) (by (simp only [List.getElem?_toArray]; rfl)) (fun K hK => ?_) AllReadyL.nil
      have zq_ := hgX.out
      unfold BlkIs at zq_
      have cq_ := cell_of_block zq_
      have fq_ := unfrozen_of_block zq_
      have lq_ := lt_of_block zq_
      go_simp
      obtain ⟨Q1, hV_, sV_, x9, oV_, kV_⟩ := stored7 V2_6 (V2_0.heap.size) _ _ _ _ _ _ _ (.int .i64 r2.me) (.int .i64 r2.view) (.bool r2.live) (.int .i64 r2.nx) (.slice r2.ta r2.tk.length r2.tc) (.slice r2.ha r2.hd.length r2.hc) (.slice r2.da r2.dn.length r2.dc) zq_
      rw [← hV_]
      clear hV_
      replace R2 := Lib.hid (Rob.weak (X' := X1) (R2.out.stored sV_ oV_ (by first | exact .inr ⟨hg0_, hgl_⟩ | exact .inr ⟨Nat.le_refl _, hgl_⟩)) (by first | exact fun b hb => .inl hb | exact fun b hb => .inl (.inl hb)))
      replace S2 := Lib.hid (Rob.weak (X' := X1) (S2.out.stored sV_ oV_ (by first | exact .inr ⟨hg0_, hgl_⟩ | exact .inr ⟨Nat.le_refl _, hgl_⟩)) (by first | exact fun b hb => .inl hb | exact fun b hb => .inl (.inl hb)))
      have KQ := Lib.hid (hS.2.trans (kV_.mono hg0_))
      replace hS := KeptB.of KQ.out
      clear zq_ cq_ fq_ lq_ kV_ oV_ sV_ hgX
      refine hK.out _ _ (fun _ => hS) ?_
      clear hK K
      try simp only [Act.put, List.setIfInBounds_toArray, List.set]
      refine wpAnyL_take (i := 14) (oi := _) (v := ?_) (by (simp only [List.getElem?_toArray]; rfl)) (by kernel_rfl) (by kernel_rfl) (by kernel_rfl) (by kernel_rfl) (by exact fun _ _ _ h => h) (Or.inl ⟨by rfl, ?_⟩) (by assumption) ?_
      rotate_left
      ·
       intro wS hSw
       go_simp
       all_goals first | with_reducible rfl | rw [if_neg (by omega)]
      simp only [Act.put, List.setIfInBounds_toArray, List.set]
      refine wpAnyL_done (by kernel_rfl) ?_ _
      clear hS
      clear cx fx lx cl fl ll
      go_wp2_with fail
      go_meet
      exact ⟨V2_0.heap.size, r2, a4, c4, sy, rfl, rfl, hg0_, x9, R2.out, F2.out, S2.out, MF2.out, LN2.out, KQ.out⟩
     exact AllReadyL.nil
    refine AllReadyL.cons (o := _) (by (simp only [List.getElem?_toArray]; rfl)) (fun K hK => ?_) ?_
    ·
     skip
     go_simp
     obtain ⟨V2_2, hw_, sw_, hv_, kw_⟩ := blocks1 V2_1 (.cells #[.int .i64 m.k, .int .i64 m.f, .int .i64 m.v, .int .i64 m.s, .int .i64 m.r.c, .int .i64 m.r.n, .int .i64 m.r.o, .int .i64 m.r.x, .int .i64 m.r.y, .slice a1 m.cl.length c1, .slice b1 m.vs.length d1] 34)
     rw [← hw_]
     clear hw_ sw_
     have hRK : Below V2.heap.size V2 V2_2 := hS.2.trans (kw_.mono (Nat.le_trans hBW hS.2.size))
     clear hS
     have hS := KeptB.of hRK
     clear hRK
     replace HT := Lib.hid (HT.out.below kw_)
     replace hgX := Lib.hid (hgX.out.below kw_)
     clear kw_
     have RV := Lib.hid (show RowsAt V2_2 (some ⟨V2_1.heap.size, 0, none⟩) 11 Mg.cs [m] from rows_of_block (R := Mg.cs) (zs := [m]) eleven_len (by rw [flat_m MV.out.1 MV.out.2]; exact hv_))
     clear hv_
     refine hK.out _ _ (fun _ => hS) ?_
     clear hK K
     try simp only [Act.put, List.setIfInBounds_toArray, List.set]
     refine wpAnyL_ready (rs := [2]) (by kernel_rfl) (by simp) ?_
     refine AllReadyL.cons (o := _) (by (simp only [List.getElem?_toArray]; rfl)) (fun K hK => ?_) AllReadyL.nil
     refine step_build0M (by rfl) (by rfl) elmMg ?_
     obtain ⟨V2_3, hw_, kw_⟩ : ∃ V, V = V2_2.alloc (.cells #[] 34) ∧ Below V2_2.heap.size V2_2 V := ⟨_, rfl, (Below.refl _ _).alloc (Nat.le_refl _) _⟩
     rw [← hw_]
     clear hw_
     have hRK : Below V2.heap.size V2 V2_3 := hS.2.trans (kw_.mono (Nat.le_trans hBW hS.2.size))
     clear hS
     have hS := KeptB.of hRK
     clear hRK
     replace HT := Lib.hid (HT.out.below kw_)
     replace hgX := Lib.hid (hgX.out.below kw_)
     replace RV := Lib.hid (RV.out.below kw_)
     clear kw_
     refine hK.out _ _ (fun _ => hS) ?_
     clear hK K
     try simp only [Act.put, List.setIfInBounds_toArray, List.set]
     refine wpAnyL_ready (rs := [4]) (by kernel_rfl) (by simp) ?_
     refine AllReadyL.cons (o := _) (by (simp only [List.getElem?_toArray]; rfl)) (fun K hK => ?_) AllReadyL.nil
     have hgq_ := hgX.out.lt
     refine step_append_newM V2_3.heap.size (by rfl) (.tmp 27) (.tmp 28) (by rfl) elmMg (by rfl) (by rfl) (fun z hz => mg_one ((HMSX.out _ (KW.out.trans (hS.2.mono KW.out.size))).2 z hz)) (HT.out) (by rfl) (by simp only [maxLen]; omega) (by omega) (Nat.le_refl _) ?_
     intro a2 c2 V2_4 q_
     have hq_ : V2.heap.size ≤ V2_3.heap.size := Nat.le_trans hBW hS.2.size
     have kw_ := q_.below
     have hRK : Below V2.heap.size V2 V2_4 := hS.2.trans (kw_.mono (Nat.le_trans hBW hS.2.size))
     clear hS
     have hS := KeptB.of hRK
     clear hRK
     replace HT := Lib.hid (HT.out.below kw_)
     replace hgX := Lib.hid (hgX.out.below kw_)
     replace RV := Lib.hid (RV.out.below kw_)
     clear kw_
     have RT := Lib.hid (q_.row.low hq_)
     have hgn := Lib.hid (show ∀ g', rowBlk a2 c2 = some g' → g' ≠ V2_0.heap.size from fun g' hg' => by have := q_.blk g' hg'; omega)
     clear q_ hq_
     refine hK.out _ _ (fun _ => hS) ?_
     clear hK K
     try simp only [Act.put, List.setIfInBounds_toArray, List.set]
     refine wpAnyL_ready (rs := [7]) (by kernel_rfl) (by simp) ?_
     refine AllReadyL.cons (o := _) (by (simp only [List.getElem?_toArray]; rfl)) (fun K hK => ?_) AllReadyL.nil
     refine step_append_elm (by rfl) (.tmp 29) (.tmp 31) (by rfl) (ms.length + 1) elmMg (by rfl) (by rfl) RT.out (fun z hz => by rw [List.mem_singleton.1 hz]; exact mg_one (MO.out.below hS.2).out) RV.out (by rfl) (by rfl) (by rfl) (by simp only [maxLen]; omega) (by omega) (Nat.le_trans hBW hS.2.size) ?_
     intro a3 c3 V2_5 q_
     have hrb_ : ∀ g, rowBlk _ _ = some g → V2.heap.size ≤ g := fun g hg => (RT.out.blk hg).1
     have hRK : Below V2.heap.size V2 V2_5 := hS.2.trans (q_.below (B' := V2.heap.size) (Nat.le_trans hBW hS.2.size) hrb_)
     clear hS
     have hS := KeptB.of hRK
     clear hRK
     have RT2 := Lib.hid (q_.row)
     replace hgX := Lib.hid (BlkIs.grown hgX.out q_.grown (fun g' hg' => hgn.out g' hg'))
     clear q_ hrb_
     refine hK.out _ _ (fun _ => hS) ?_
     clear hK K
     try simp only [Act.put, List.setIfInBounds_toArray, List.set]
     refine wpAnyL_ready (rs := [8]) (by kernel_rfl) (by simp) ?_
     refine AllReadyL.cons (o := _) (by (simp only [List.getElem?_toArray]; rfl)) (fun K hK => ?_) AllReadyL.nil
     have hgl_ := hgX.out.lt
     have IS := Lib.hid (show IsMs V2_5 (.slice a3 (ms.length + 1) c3) (ms ++ [m]) from ⟨by
      have h := RT2.out.sl eleven_len
      rw [List.length_append] at h
      exact h, fun z hz => (List.mem_append.1 hz).elim (fun h' => (HMSX.out _ (KW.out.trans (hS.2.mono KW.out.size))).2 z h') (fun h' => by rw [List.mem_singleton.1 h']; exact (MO.out.below hS.2).out)⟩)
     have MSF := Lib.hid (fit_snoc HMSF.out HMF.out)
     go_simp
     refine (l5Turned_c (Bx X1 V2.heap.size V2_5.heap.size) T D r1 _ _ m (ms ++ [m]) V2_5 (R1.out.box hS.2 _) F1.out (isMg_sl MV.out.1 MV.out.2 (MO.out.below hS.2).out) HMF.out IS.out MSF.out (Bx.lt (fun b hb => Nat.lt_of_lt_of_le (hlt b hb) hs) hS.2.size) hT).mono ?_
     rintro e V2_6 ⟨r2, a4, c4, sy, rfl, hr2, hf2, hsy2, hmf2, hln2, kw_⟩
     have hRK : Below V2.heap.size V2 V2_6 := hS.2.trans (kw_.mono (Nat.le_trans hBW hS.2.size))
     clear hS
     have hS := KeptB.of hRK
     clear hRK
     replace RT2 := Lib.hid (RT2.out.below kw_)
     replace hgX := Lib.hid (hgX.out.below kw_)
     clear kw_
     have R2 := Lib.hid hr2
     have F2 := Lib.hid hf2
     have S2 := Lib.hid hsy2
     have MF2 := Lib.hid hmf2
     have LN2 := Lib.hid hln2
     clear hr2 hf2 hsy2 hmf2 hln2 IS MSF
     refine hK.out _ _ (fun _ => hS) ?_
     clear hK K
     try simp only [Act.put, List.setIfInBounds_toArray, List.set]
     refine wpAnyL_take (i := 9) (oi := _) (v := ?_) (by (simp only [List.getElem?_toArray]; rfl)) (by kernel_rfl) (by kernel_rfl) (by kernel_rfl) (by kernel_rfl) (by exact fun _ _ _ h => h) (Or.inl ⟨by rfl, ?_⟩) (by assumption) ?_
     rotate_left
     ·
      intro wS hSw
      go_simp
      all_goals first | with_reducible rfl | rw [if_neg (by omega)]
     simp only [Act.put, List.setIfInBounds_toArray, List.set]
     refine wpAnyL_take (i := 10) (oi := _) (v := ?_) (by (simp only [List.getElem?_toArray]; rfl)) (by kernel_rfl) (by kernel_rfl) (by kernel_rfl) (by kernel_rfl) (by exact fun _ _ _ h => h) (Or.inl ⟨by rfl, ?_⟩) (by assumption) ?_
     rotate_left
     ·
      intro wS hSw
      go_simp
      all_goals first | with_reducible rfl | rw [if_neg (by omega)]
     simp only [Act.put, List.setIfInBounds_toArray, List.set]
     refine wpAnyL_take (i := 11) (oi := _) (v := ?_) (by (simp only [List.getElem?_toArray]; rfl)) (by kernel_rfl) (by kernel_rfl) (by kernel_rfl) (by kernel_rfl) (by exact fun _ _ _ h => h) (Or.inl ⟨by rfl, ?_⟩) (by assumption) ?_
     rotate_left
     ·
      intro wS hSw
      go_simp
      all_goals first | with_reducible rfl | rw [if_neg (by omega)]
     simp only [Act.put, List.setIfInBounds_toArray, List.set]
     refine wpAnyL_ready (rs := [13]) (by kernel_rfl) (by simp) ?_
     refine AllReadyL.cons (o := _) (by (simp only [List.getElem?_toArray]; rfl)) (fun K hK => ?_) AllReadyL.nil
     have zq_ := hgX.out
     unfold BlkIs at zq_
     have cq_ := cell_of_block zq_
     have fq_ := unfrozen_of_block zq_
     have lq_ := lt_of_block zq_
     go_simp
     obtain ⟨Q1, hV_, sV_, x9, oV_, kV_⟩ := stored7 V2_6 (V2_0.heap.size) _ _ _ _ _ _ _ (.int .i64 r2.me) (.int .i64 r2.view) (.bool r2.live) (.int .i64 r2.nx) (.slice r2.ta r2.tk.length r2.tc) (.slice r2.ha r2.hd.length r2.hc) (.slice r2.da r2.dn.length r2.dc) zq_
     rw [← hV_]
     clear hV_
     replace R2 := Lib.hid (Rob.weak (X' := X1) (R2.out.stored sV_ oV_ (by first | exact .inr ⟨hg0_, hgl_⟩ | exact .inr ⟨Nat.le_refl _, hgl_⟩)) (by first | exact fun b hb => .inl hb | exact fun b hb => .inl (.inl hb)))
     replace S2 := Lib.hid (Rob.weak (X' := X1) (S2.out.stored sV_ oV_ (by first | exact .inr ⟨hg0_, hgl_⟩ | exact .inr ⟨Nat.le_refl _, hgl_⟩)) (by first | exact fun b hb => .inl hb | exact fun b hb => .inl (.inl hb)))
     have KQ := Lib.hid (hS.2.trans (kV_.mono hg0_))
     replace hS := KeptB.of KQ.out
     clear zq_ cq_ fq_ lq_ kV_ oV_ sV_ hgX
     refine hK.out _ _ (fun _ => hS) ?_
     clear hK K
     try simp only [Act.put, List.setIfInBounds_toArray, List.set]
     refine wpAnyL_take (i := 14) (oi := _) (v := ?_) (by (simp only [List.getElem?_toArray]; rfl)) (by kernel_rfl) (by kernel_rfl) (by kernel_rfl) (by kernel_rfl) (by exact fun _ _ _ h => h) (Or.inl ⟨by rfl, ?_⟩) (by assumption) ?_
     rotate_left
     ·
      intro wS hSw
      go_simp
      all_goals first | with_reducible rfl | rw [if_neg (by omega)]
     simp only [Act.put, List.setIfInBounds_toArray, List.set]
     refine wpAnyL_done (by kernel_rfl) ?_ _
     clear hS
     clear cx fx lx cl fl ll
     go_wp2_with fail
     go_meet
     exact ⟨V2_0.heap.size, r2, a4, c4, sy, rfl, rfl, hg0_, x9, R2.out, F2.out, S2.out, MF2.out, LN2.out, KQ.out⟩
    exact AllReadyL.nil
   exact AllReadyL.nil
  case rest =>
   obtain ⟨g2, r2, a4, c4, sy, rfl, rfl, hg2, p, hr2, hf2, hsy2, hmf2, hln2, k1_⟩ := hcut
   have R2 := Lib.hid hr2
   have F2 := Lib.hid hf2
   have S2 := Lib.hid hsy2
   have MF2 := Lib.hid hmf2
   clear hr2 hf2 hsy2 hmf2 R1 HT
   have llV2 := lt_of_block l
   have lz_ := lt_of_block z
   replace x := carryB k1_ (lt_of_block x) x
   replace z := carryB k1_ lz_ z
   replace l := carryB k1_ llV2 l
   replace MO := Lib.hid (MO.out.below k1_)
   have hg2W : W.heap.size ≤ g2 := Nat.le_trans hs hg2
   replace K := below_next K k1_
   replace hs := Nat.le_trans hs k1_.size
   clear k1_ lz_ llV2 hg2
   have hgm3 : ¬ (g2 = w.heap.size + 1) := by omega
   have hgm4 : ¬ (w.heap.size + 1 = g2) := by omega
   have KW := Lib.hid K
   have SR := Lib.hid (S2.out.out.1.bounds.2.2.2)
   have hBW := Nat.le_refl wc.heap.size
   have cx := cell_of_block x
   have fx := unfrozen_of_block x
   have lx := lt_of_block x
   have cz := cell_of_block z
   have fz := unfrozen_of_block z
   have lz := lt_of_block z
   have cp := cell_of_block p
   have fp := unfrozen_of_block p
   have lp := lt_of_block p
   have cl := cell_of_block l
   have fl := unfrozen_of_block l
   have ll := lt_of_block l
   go_upto_region 6 with fail
   refine wp_region_L (fun w' => (∀ b o, b < wc.heap.size → b ≠ w.heap.size + 1 → w'.cell? ⟨b, o, none⟩ = wc.cell? ⟨b, o, none⟩) ∧ wc.heap.size ≤ w'.heap.size) [] (by kernel_rfl) ?_
   obtain ⟨wc_0, hw_, kw_⟩ : ∃ wd, wd = wc.drew ∧ Below wc.heap.size wc wd := ⟨_, rfl, Below.drew (Below.refl _ _)⟩
   rw [← hw_]
   clear hw_
   have hS := KE.next hBW (KE.refl wc.heap.size (w.heap.size + 1) wc) kw_
   replace x := carryB kw_ (lt_of_block x) x
   replace z := carryB kw_ (lt_of_block z) z
   replace p := carryB kw_ (lt_of_block p) p
   replace l := carryB kw_ (lt_of_block l) l
   replace KW := Lib.hid (below_next KW.out kw_)
   replace R2 := Lib.hid (R2.out.below kw_)
   replace S2 := Lib.hid (S2.out.below kw_)
   replace SR := Lib.hid (SR.out.below kw_)
   replace MO := Lib.hid (MO.out.below kw_)
   clear kw_
   refine wpAnyL_take (i := 0) (oi := _) (v := ?_) (by (simp only [List.getElem?_toArray]; rfl)) (by kernel_rfl) (by kernel_rfl) (by kernel_rfl) (by kernel_rfl) (by exact fun _ _ _ h => h) (Or.inl ⟨by rfl, ?_⟩) (by assumption) ?_
   rotate_left
   ·
    intro wS hSw
    go_simp
    all_goals first | with_reducible rfl | rw [if_neg (by omega)]
   simp only [Act.put, List.setIfInBounds_toArray, List.set]
   refine wpAnyL_take (i := 1) (oi := _) (v := ?_) (by (simp only [List.getElem?_toArray]; rfl)) (by kernel_rfl) (by kernel_rfl) (by kernel_rfl) (by kernel_rfl) (by exact fun _ _ _ h => h) (Or.inl ⟨by rfl, ?_⟩) (by assumption) ?_
   rotate_left
   ·
    intro wS hSw
    go_simp
    all_goals first | with_reducible rfl | rw [if_neg (by omega)]
   simp only [Act.put, List.setIfInBounds_toArray, List.set]
   refine wpAnyL_take (i := 4) (oi := _) (v := ?_) (by (simp only [List.getElem?_toArray]; rfl)) (by kernel_rfl) (by kernel_rfl) (by kernel_rfl) (by kernel_rfl) (by exact fun _ _ _ h => h) (Or.inl ⟨by rfl, ?_⟩) (by assumption) ?_
   rotate_left
   ·
    intro wS hSw
    go_simp
    all_goals first | with_reducible rfl | rw [if_neg (by omega)]
   simp only [Act.put, List.setIfInBounds_toArray, List.set]
   refine wpAnyL_ready (rs := [2]) (by kernel_rfl) (by simp) ?_
   refine AllReadyL.cons (o := _) (by (simp only [List.getElem?_toArray]; rfl)) (fun K hK => ?_) AllReadyL.nil
   have hq_ : wc.heap.size ≤ wc_0.heap.size := hS.2
   go_simp
   refine (l3Copy_c _ m wc_0 (isMg_sl MV.out.1 MV.out.2 MO.out.out) HMF.out).mono ?_
   rintro e wc_1 ⟨n1, n2, n3, n4, ys, rfl, hN_, hsy_, kw_⟩
   replace hS := KE.next hBW hS kw_
   replace x := carryB kw_ (lt_of_block x) x
   replace z := carryB kw_ (lt_of_block z) z
   replace p := carryB kw_ (lt_of_block p) p
   replace l := carryB kw_ (lt_of_block l) l
   replace KW := Lib.hid (below_next KW.out kw_)
   replace R2 := Lib.hid (R2.out.below kw_)
   replace S2 := Lib.hid (S2.out.below kw_)
   replace SR := Lib.hid (SR.out.below kw_)
   replace MO := Lib.hid (MO.out.below kw_)
   clear kw_
   have NL := Lib.hid (hN_.ofLo (X := X1) (fun b hb => Nat.lt_of_lt_of_le (hlt b hb) (Nat.le_trans hs hq_)))
   have HSY := Lib.hid hsy_
   clear hN_ hsy_ hq_
   refine hK.out _ _ (fun _ => hS) ?_
   clear hK K
   try simp only [Act.put, List.setIfInBounds_toArray, List.set]
   refine wpAnyL_ready (rs := [3]) (by kernel_rfl) (by simp) ?_
   refine AllReadyL.cons (o := _) (by (simp only [List.getElem?_toArray]; rfl)) (fun K hK => ?_) AllReadyL.nil
   go_simp
   obtain ⟨wc_2, hw_, sw_, hv_, kw_⟩ := blocks1 wc_1 (.cells #[.int .i64 m.k, .int .i64 m.f, .int .i64 m.v, .int .i64 m.s, .int .i64 m.r.c, .int .i64 m.r.n, .int .i64 m.r.o, .int .i64 m.r.x, .int .i64 m.r.y, .slice n1 m.cl.length n2, .slice n3 m.vs.length n4] 34)
   rw [← hw_]
   clear hw_ sw_
   have hq_ : wc.heap.size ≤ wc_1.heap.size := Nat.le_trans hBW hS.2
   replace R2 := Lib.hid (Rob.own1 R2.out kw_ (Nat.le_refl _) 1)
   replace S2 := Lib.hid (Rob.own1 S2.out kw_ (Nat.le_refl _) 1)
   replace NL := Lib.hid (Rob.own1 NL.out kw_ (Nat.le_refl _) 1)
   replace MO := Lib.hid (Rob.own1 MO.out kw_ (Nat.le_refl _) 1)
   replace hS := KE.next hBW hS kw_
   replace x := carryB kw_ (lt_of_block x) x
   replace z := carryB kw_ (lt_of_block z) z
   replace p := carryB kw_ (lt_of_block p) p
   replace l := carryB kw_ (lt_of_block l) l
   replace KW := Lib.hid (below_next KW.out kw_)
   replace SR := Lib.hid (SR.out.below kw_)
   clear kw_
   have RT := Lib.hid (row_of_block (k := 11) (R := Mg.cs) (zs := [(m.wth n1 n2 n3 n4 ys)]) (fun _ => rfl) (show wc_2.heap[wc_1.heap.size]? = some (.cells (flat Mg.cs [(m.wth n1 n2 n3 n4 ys)]) 34 (0, 0)) from hv_) hq_ (by unfold maxLen; simp))
   clear hv_ hq_
   refine hK.out _ _ (fun _ => hS) ?_
   clear hK K
   try simp only [Act.put, List.setIfInBounds_toArray, List.set]
   refine wpAnyL_ready (rs := [5]) (by kernel_rfl) (by simp) ?_
   refine AllReadyL.cons (o := _) (by (simp only [List.getElem?_toArray]; rfl)) (fun K hK => ?_) AllReadyL.nil
   refine step_append_elm (by rfl) (.tmp 39) (.tmp 40) (by rfl) (sy.length + 1) elmMg (by rfl) (by rfl) RT.out (fun z hz => mg_one (S2.out.out.2 z hz)) SR.out rfl rfl (Nat.add_comm 1 sy.length) (by simp only [maxLen]; omega) (by omega) (Nat.le_trans hBW hS.2) ?_
   intro a6 c6 wc_3 q_
   have hrb_ : ∀ g, rowBlk _ _ = some g → wc.heap.size ≤ g := fun g hg => (RT.out.blk hg).1
   have kB_ : Below wc.heap.size wc_2 wc_3 := q_.below (Nat.le_trans hBW hS.2) hrb_
   replace hS := KE.bel hS kB_
   replace x := carryB kB_ (by omega) x
   replace z := carryB kB_ (by omega) z
   replace p := carryB kB_ (by omega) p
   replace l := carryB kB_ (by omega) l
   replace KW := Lib.hid (KW.out.trans (kB_.mono (by omega)))
   have RT2 := Lib.hid (q_.row)
   have R2 := Lib.hid (R2.out.appendedX q_)
   have S2 := Lib.hid (S2.out.appendedX q_)
   have NL := Lib.hid (NL.out.appendedX q_)
   have MO := Lib.hid (MO.out.appendedX q_)
   clear q_ hrb_ kB_
   refine hK.out _ _ (fun _ => hS) ?_
   clear hK K
   try simp only [Act.put, List.setIfInBounds_toArray, List.set]
   refine wpAnyL_ready (rs := [6]) (by kernel_rfl) (by simp) ?_
   refine AllReadyL.cons (o := _) (by (simp only [List.getElem?_toArray]; rfl)) (fun K hK => ?_) AllReadyL.nil
   have cq_ := cell_of_block z
   have fq_ := unfrozen_of_block z
   have lq_ := lt_of_block z
   go_simp
   obtain ⟨wc_4, hV_, sV_, zV_, oV_, kV_⟩ := stored7 wc_3 (w.heap.size + 1) _ _ _ _ _ _ _ (.int .i64 r2.me) (.int .i64 r2.view) (.bool r2.live) (.int .i64 r2.nx) (.slice r2.ta r2.tk.length r2.tc) (.slice r2.ha r2.hd.length r2.hc) (.slice r2.da r2.dn.length r2.dc) z
   rw [← hV_]
   clear hV_ cq_ fq_ lq_
   replace R2 := Lib.hid (R2.out.stored sV_ oV_ (.inl (hin _ (by omega) (by omega))))
   replace S2 := Lib.hid (S2.out.stored sV_ oV_ (.inl (hin _ (by omega) (by omega))))
   replace NL := Lib.hid (NL.out.stored sV_ oV_ (.inl (hin _ (by omega) (by omega))))
   replace MO := Lib.hid (MO.out.stored sV_ oV_ (.inl (hin _ (by omega) (by omega))))
   replace RT2 := Lib.hid (RT2.out.later sV_ oV_ (by omega))
   replace x := (oV_ _ (by omega)).trans x
   replace p := (oV_ _ (by omega)).trans p
   replace l := (oV_ _ (by omega)).trans l
   replace z := zV_
   replace KW := Lib.hid (KW.out.trans (kV_.mono (by omega)))
   replace hS := KE.store hS sV_ oV_
   clear kV_ oV_ sV_ zV_
   refine hK.out _ _ (fun _ => hS) ?_
   clear hK K
   try simp only [Act.put, List.setIfInBounds_toArray, List.set]
   refine wpAnyL_take (i := 7) (oi := _) (v := ?_) (by (simp only [List.getElem?_toArray]; rfl)) (by kernel_rfl) (by kernel_rfl) (by kernel_rfl) (by kernel_rfl) (by exact fun _ _ _ h => h) (Or.inl ⟨by rfl, ?_⟩) (by assumption) ?_
   rotate_left
   ·
    intro wS hSw
    go_simp
    all_goals first | with_reducible rfl | rw [if_neg (by omega)]
   simp only [Act.put, List.setIfInBounds_toArray, List.set]
   refine wpAnyL_done (by kernel_rfl) ?_ _
   clear cx fx lx cz fz lz cp fp lp cl fl ll
   clear hS x p l
   have cz := cell_of_block z
   have fz := unfrozen_of_block z
   have lz := lt_of_block z
   go_wp2_with fail
   refine bodyPost_ret (v := .tuple #[.agg #[.int .i64 r2.me, .int .i64 r2.view, .bool r2.live, .int .i64 r2.nx, .slice r2.ta r2.tk.length r2.tc, .slice r2.ha r2.hd.length r2.hc, .slice r2.da r2.dn.length r2.dc], .slice a6 (sy.length + 1) c6]) (by simp [results, Try.results87, go_sem, cz]) rfl ?_
   refine ⟨r2, a6, c6, [(m.wth n1 n2 n3 n4 ys)] ++ sy, rfl, R2.out.weak (fun b hb => .inl (hsub b hb)), F2.out, ?_, fit_append (fit_one (fit_wth HMF.out HSY.out)) MF2.out, by show sy.length + 1 ≤ 7; omega, KW.out⟩
   refine fun V' hV' => ⟨Rob.ofLo (B := wc.heap.size) (RT2.out.rob eleven_len) (fun b hb => Nat.lt_of_lt_of_le (hlt b (hsub b hb)) hs) V' hV', fun m' hm' => (List.mem_append.1 hm').elim (fun h' => ?_) (fun h' => (S2.out.weak (fun b hb => .inl (hsub b hb)) V' hV').2 m' h')⟩
   rw [List.mem_singleton.1 h']
   exact NL.out.weak (fun b hb => .inl (hsub b hb)) V' hV'
end Go.Proofs.Ytgdhieffjflejaa
