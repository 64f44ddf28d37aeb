/- A keeper that enters a view (l5Enter); condition: small sizes. -/
import Derived.Test.YtgdhieffjflejaaK8
set_option linter.unusedSimpArgs false
set_option linter.unusedVariables false
namespace Go.Proofs.Ytgdhieffjflejaa
open Go.RowKit Go.Joins

/-- A block holds these cells. -/
def BlkIs (g : Nat) (cs : Array Value) (t : TypeId) (w : World) : Prop := w.heap[g]? = some (.cells cs t (0, 0))
theorem BlkIs.below {g : Nat} {cs : Array Value} {t : TypeId} {w w' : World} (h : BlkIs g cs t w) (k : Below w.heap.size w w') : BlkIs g cs t w' := carryB k (lt_of_block h) h

set_option maxRecDepth 100000 in
set_option maxHeartbeats 16000000 in
theorem l5Enter_c (X : Nat → Prop) (T D : Nat) (r : Rk) (view : Int) (va : Value) (vs : List Vx) (w : World) (h : Rob X r.ok w) (hf : r.fit T D) (ha : IsVs w va vs) (hv : ∀ z ∈ vs, ∀ c ∈ z.cl, c.s ≤ 5) (hX : ∀ b, X b → b < w.heap.size) (hT : T ≤ 900000) :
    Calls Try.prog 108 #[.agg #[.int .i64 r.me, .int .i64 r.view, .bool r.live, .int .i64 r.nx, .slice r.ta r.tk.length r.tc, .slice r.ha r.hd.length r.hc, .slice r.da r.dn.length r.dc], .int .i64 view, va] w (KeepSays X (T + 5) D 5 w) := by
  have HO := Lib.hid h
  have HF := Lib.hid hf
  have HA := Lib.hid ha
  obtain ⟨⟨av, cv, rfl, -⟩, -⟩ := ha
  clear h hf
  go_enter Try.func108, Try.ntmps108
  go_upto_region 1 with fail
  obtain ⟨W, hW_, sW, x, z, kW⟩ := blocks2 w (.cells #[.int .i64 r.me, .int .i64 r.view, .bool r.live, .int .i64 r.nx, .slice r.ta r.tk.length r.tc, .slice r.ha r.hd.length r.hc, .slice r.da r.dn.length r.dc] 78) (.cells #[.int .i64 0, .int .i64 0, .bool false, .int .i64 0, .slice none 0 0, .slice none 0 0, .slice none 0 0] 78)
  rw [← hW_]
  clear hW_
  have hsW : w.heap.size + 2 ≤ W.heap.size := by omega
  obtain ⟨X1, hlt, hin, hsub, hbx⟩ : ∃ X1 : Nat → Prop, (∀ b, X1 b → b < W.heap.size) ∧ (∀ b, w.heap.size ≤ b → b < W.heap.size → X1 b) ∧ (∀ b, X b → X1 b) ∧ ∀ (F : World → Prop) (V : World), Below w.heap.size w V → Rob X F w → Rob X1 F V :=
    ⟨Bx X w.heap.size W.heap.size, Bx.lt hX (by omega), fun b h1 h2 => .inr ⟨h1, h2⟩, fun b hb => .inl hb, fun F V hV hF => hF.box hV _⟩
  clear sW
  have cx := cell_of_block x
  have fx := unfrozen_of_block x
  have lx := lt_of_block x
  go_upto_region 2 with fail
  obtain ⟨V, hV_, sV, xV, oV, kV⟩ := stored1 W w.heap.size 1 (.int .i64 view) x
  rw [← hV_]
  clear hV_
  clear cx fx lx
  clear x
  replace z := (oV _ (by omega)).trans z
  have K := kW.trans (kV.mono (by omega))
  have hs : W.heap.size ≤ V.heap.size := by omega
  clear oV kV sV kW
  have cxV := cell_of_block xV
  have fxV := unfrozen_of_block xV
  have lxV := lt_of_block xV
  go_upto_region 3 with fail
  obtain ⟨V1, hV_, sV, x1, oV, kV⟩ := stored1 V w.heap.size 2 (.bool true) xV
  rw [← hV_]
  clear hV_
  clear cxV fxV lxV
  clear xV
  replace z := (oV _ (by omega)).trans z
  replace K := K.trans (kV.mono (by omega))
  replace hs : W.heap.size ≤ V1.heap.size := by omega
  clear oV kV sV
  go_upto_region 4 with fail
  obtain ⟨V2, hV_, sV, nV, kV⟩ := blocks1 V1 (.cells #[] 34)
  rw [← hV_]
  clear hV_ sV nV
  replace x1 := carryB kV (lt_of_block x1) x1
  replace z := carryB kV (lt_of_block z) z
  replace K := below_next K kV
  replace hs := Nat.le_trans hs kV.size
  clear kV
  go_wp2_with fail
  refine (l4Picks_c _ vs V2 (HA.out.below K) hv).mono ?_
  rintro e V3 ⟨ap, cp, ps, rfl, hp5, hpr, k3_⟩
  have PI0 := Lib.hid (hpr.robX (X := X1) (fun _ => rfl) (fun b hb => Nat.lt_of_lt_of_le (hlt b hb) hs))
  clear hpr
  replace x1 := carryB k3_ (lt_of_block x1) x1
  replace z := carryB k3_ (lt_of_block z) z
  replace K := below_next K k3_
  replace hs := Nat.le_trans hs k3_.size
  clear k3_
  have cx1 := cell_of_block x1
  have fx1 := unfrozen_of_block x1
  have lx1 := lt_of_block x1
  go_upto_region 6 with fail
  obtain ⟨Y, hV_, sV, xV, oV, kV⟩ := stored1 V3 w.heap.size 3 (.int .i64 ((ps.length : Int) + 1)) x1
  rw [← hV_]
  clear hV_
  clear cx1 fx1 lx1
  clear x1
  have x : Y.heap[w.heap.size]? = some (.cells #[.int .i64 r.me, .int .i64 view, .bool true, .int .i64 ((ps.length : Int) + 1), .slice r.ta r.tk.length r.tc, .slice r.ha r.hd.length r.hc, .slice r.da r.dn.length r.dc] 78 (0, 0)) := by simpa using xV
  replace z := (oV _ (by omega)).trans z
  replace PI0 := Lib.hid (PI0.out.stored sV oV (hin _ (by omega) (by omega)))
  replace K := K.trans (kV.mono (by omega))
  replace hs : W.heap.size ≤ Y.heap.size := by omega
  clear xV oV kV sV
  have R0 := Lib.hid (show Rob X1 (Rk.ok ⟨r.me, view, true, (ps.length : Int) + 1, r.ta, r.tc, r.tk, r.ha, r.hc, r.hd, r.da, r.dc, r.dn⟩) Y from hbx _ _ K HO.out)
  have F0 := Lib.hid (show Rk.fit T D ⟨r.me, view, true, (ps.length : Int) + 1, r.ta, r.tc, r.tk, r.ha, r.hc, r.hd, r.da, r.dc, r.dn⟩ from ⟨HF.out.me0, HF.out.me3, HF.out.tk, HF.out.hd, HF.out.ms, HF.out.dn⟩)
  have K0 := K
  have hs0 := hs
  clear K hs hbx
  go_wp2_with fail
  go_loopw [8, 10] (fun st i wr => ∃ (k : Nat) (r1 : Rk) (a : Option Addr) (cc : Nat) (sy : List Mg), k ≤ ps.length ∧ i = .int .i64 k ∧ st = .slice a sy.length cc ∧ wr.heap[w.heap.size]? = some (.cells #[.int .i64 r1.me, .int .i64 r1.view, .bool r1.live, .int .i64 r1.nx, .slice r1.ta r1.tk.length r1.tc, .slice r1.ha r1.hd.length r1.hc, .slice r1.da r1.dn.length r1.dc] 78 (0, 0)) ∧ wr.heap[w.heap.size + 1]? = some (.cells #[.int .i64 0, .int .i64 0, .bool false, .int .i64 0, .slice none 0 0, .slice none 0 0, .slice none 0 0] 78 (0, 0)) ∧
      Rob (OwX X1 a cc) r1.ok wr ∧ r1.fit (T + k) D ∧ Row wr W.heap.size 34 a cc 11 Mg.cs sy ∧ Rob (OwX X1 a cc) (fun V => ∀ m ∈ sy, m.ok V) wr ∧ Rob (OwX X1 a cc) (fun V => IsSl V (.slice ap ps.length cp) 5 Rq.cs ps) wr ∧ MsFit sy ∧ sy.length ≤ k ∧ W.heap.size ≤ wr.heap.size ∧ Below w.heap.size w wr) (fun _ i _ => ps.length - (intOf i).toNat)
  case atStart => exact ⟨0, ⟨r.me, view, true, (ps.length : Int) + 1, r.ta, r.tc, r.tk, r.ha, r.hc, r.hd, r.da, r.dc, r.dn⟩, some ⟨V1.heap.size, 0, none⟩, 0, [], Nat.zero_le _, rfl, rfl, x, z, R0.out.owX0, F0.out, Row.nil _ _ _ _ _ _, (fun V hV m hm => nomatch hm), PI0.out.owX0, (fun m hm => nomatch hm), Nat.le_refl _, hs0, K0⟩
  case round =>
    clear x z R0 K0 hs0 F0 PI0
    obtain ⟨k, r1, a, cc, sy, hk, rfl, rfl, x, z, hR, hF1, hRow, hAP, hPI, hMF, hHL, hs, K⟩ := hrel
    have R := Lib.hid hR
    have FF := Lib.hid hF1
    have RW := Lib.hid hRow
    have AP := Lib.hid hAP
    have PI := Lib.hid hPI
    have MF := Lib.hid hMF
    clear hR hF1 hRow hAP hPI hMF
    by_cases hlt2 : k < ps.length
    · have hk1 : (k : Int) < (ps.length : Int) := by omega
      have hk0 : (0 : Int) ≤ (k : Int) := by omega
      obtain ⟨-, hlc, hmx, hrt⟩ := PI.out.out.bounds
      unfold maxLen at hmx
      obtain ⟨b1, o1, ea, hl1, hd0⟩ := five_at hrt k hlt2
      obtain ⟨d0, d1, d2, d3, d4⟩ := hd0 wr (Below.refl _ _)
      clear hd0 hrt
      subst ea
      generalize ps[k] = p at *
      have hBW := Nat.le_refl wr.heap.size
      have cx := cell_of_block x
      have fx := unfrozen_of_block x
      have lx := lt_of_block x
      go_upto_region 9 with fail
      refine wp_region_L (fun w' => ((∀ b o, b < wr.heap.size → (w').cell? ⟨b, o, none⟩ = (wr).cell? ⟨b, o, none⟩) ∧ Below (wr.heap.size) (wr) (w'))) [] (by kernel_rfl) ?_
      obtain ⟨wr_0, hw_, kw_⟩ : ∃ wd, wd = wr.drew ∧ Below wr.heap.size wr wd := ⟨_, rfl, Below.drew (Below.refl _ _)⟩
      rw [← hw_]
      clear hw_
      have hS := KeptB.of (kw_.mono hBW)
      clear kw_
      refine wpAnyL_take (i := 0) (oi := _) (v := ?_) (by (simp only [List.getElem?_toArray]; rfl)) (by kernel_rfl) (by kernel_rfl) (by kernel_rfl) (by kernel_rfl) (by exact fun _ _ _ h => h) (Or.inl ⟨by rfl, ?_⟩) (by assumption) ?_
      rotate_left
      · intro wS hSw
        go_simp
        all_goals first | with_reducible rfl | rw [if_neg (by omega)]
      simp only [Act.put, List.setIfInBounds_toArray, List.set]
      refine wpAnyL_take (i := 1) (oi := _) (v := ?_) (by (simp only [List.getElem?_toArray]; rfl)) (by kernel_rfl) (by kernel_rfl) (by kernel_rfl) (by kernel_rfl) (by exact fun _ _ _ h => h) (Or.inl ⟨by rfl, ?_⟩) (by assumption) ?_
      rotate_left
      · intro wS hSw
        go_simp
        all_goals first | with_reducible rfl | rw [if_neg (by omega)]
      simp only [Act.put, List.setIfInBounds_toArray, List.set]
      refine wpAnyL_take (i := 2) (oi := _) (v := ?_) (by (simp only [List.getElem?_toArray]; rfl)) (by kernel_rfl) (by kernel_rfl) (by kernel_rfl) (by kernel_rfl) (by exact fun _ _ _ h => h) (Or.inl ⟨by rfl, ?_⟩) (by assumption) ?_
      rotate_left
      · intro wS hSw
        go_simp
        all_goals first | with_reducible rfl | rw [if_neg (by omega)]
      simp only [Act.put, List.setIfInBounds_toArray, List.set]
      refine wpAnyL_take (i := 3) (oi := _) (v := ?_) (by (simp only [List.getElem?_toArray]; rfl)) (by kernel_rfl) (by kernel_rfl) (by kernel_rfl) (by kernel_rfl) (by exact fun _ _ _ h => h) (Or.inl ⟨by rfl, ?_⟩) (by assumption) ?_
      rotate_left
      · intro wS hSw
        go_simp
        all_goals first | with_reducible rfl | rw [if_neg (by omega)]
      simp only [Act.put, List.setIfInBounds_toArray, List.set]
      refine wpAnyL_take (i := 4) (oi := _) (v := ?_) (by (simp only [List.getElem?_toArray]; rfl)) (by kernel_rfl) (by kernel_rfl) (by kernel_rfl) (by kernel_rfl) (by exact fun _ _ _ h => h) (Or.inl ⟨by rfl, ?_⟩) (by assumption) ?_
      rotate_left
      · intro wS hSw
        go_simp
        all_goals first | with_reducible rfl | rw [if_neg (by omega)]
      simp only [Act.put, List.setIfInBounds_toArray, List.set]
      refine wpAnyL_take (i := 5) (oi := _) (v := ?_) (by (simp only [List.getElem?_toArray]; rfl)) (by kernel_rfl) (by kernel_rfl) (by kernel_rfl) (by kernel_rfl) (by exact fun _ _ _ h => h) (Or.inl ⟨by rfl, ?_⟩) (by assumption) ?_
      rotate_left
      · intro wS hSw
        go_simp
        all_goals first | with_reducible rfl | rw [if_neg (by omega)]
      simp only [Act.put, List.setIfInBounds_toArray, List.set]
      refine wpAnyL_take (i := 6) (oi := _) (v := ?_) (by (simp only [List.getElem?_toArray]; rfl)) (by kernel_rfl) (by kernel_rfl) (by kernel_rfl) (by kernel_rfl) (by exact fun _ _ _ h => h) (Or.inl ⟨by rfl, ?_⟩) (by assumption) ?_
      rotate_left
      · intro wS hSw
        go_simp
        all_goals first | with_reducible rfl | rw [if_neg (by omega)]
      simp only [Act.put, List.setIfInBounds_toArray, List.set]
      refine wpAnyL_take (i := 7) (oi := _) (v := ?_) (by (simp only [List.getElem?_toArray]; rfl)) (by kernel_rfl) (by kernel_rfl) (by kernel_rfl) (by kernel_rfl) (by exact fun _ _ _ h => h) (Or.inl ⟨by rfl, ?_⟩) (by assumption) ?_
      rotate_left
      · intro wS hSw
        go_simp
        all_goals first | with_reducible rfl | rw [if_neg (by omega)]
      simp only [Act.put, List.setIfInBounds_toArray, List.set]
      refine wpAnyL_take (i := 8) (oi := _) (v := ?_) (by (simp only [List.getElem?_toArray]; rfl)) (by kernel_rfl) (by kernel_rfl) (by kernel_rfl) (by kernel_rfl) (by exact fun _ _ _ h => h) (Or.inl ⟨by rfl, ?_⟩) (by assumption) ?_
      rotate_left
      · intro wS hSw
        go_simp
        all_goals first | with_reducible rfl | rw [if_neg (by omega)]
      simp only [Act.put, List.setIfInBounds_toArray, List.set]
      refine wpAnyL_ready (rs := [9, 13]) (by kernel_rfl) (by simp) ?_
      refine AllReadyL.cons (o := _) (by (simp only [List.getElem?_toArray]; rfl)) (fun K hK => ?_) ?_
      · skip
        go_simp
        refine (l5Yes_c (Bx (OwX X1 a cc) wr.heap.size wr_0.heap.size) (T + k) D r1 ⟨IntKind.i64.wrap ((k : Int) + 1), view, p⟩ wr_0 (R.out.box hS.2 _) FF.out (Bx.lt (OwX.lt (fun b hb => Nat.lt_of_lt_of_le (hlt b hb) hs) RW.out) hS.2.size) (by omega)).mono ?_
        rintro e wr_1 ⟨r2, a2, c2, sy2, rfl, hr2, hf2, hsy2, hmf2, hln2, kw_⟩
        have hRK : Below wr.heap.size wr wr_1 := hS.2.trans (kw_.mono (Nat.le_trans hBW hS.2.size))
        clear hS
        have hS := KeptB.of hRK
        clear hRK
        clear kw_
        have R2 := Lib.hid hr2
        have F2 := Lib.hid hf2
        have S2 := Lib.hid hsy2
        have MF2 := Lib.hid hmf2
        have LN2 := Lib.hid hln2
        clear hr2 hf2 hsy2 hmf2 hln2
        refine hK.out _ _ (fun _ => hS) ?_
        clear hK K
        try simp only [Act.put, List.setIfInBounds_toArray, List.set]
        refine wpAnyL_take (i := 10) (oi := _) (v := ?_) (by (simp only [List.getElem?_toArray]; rfl)) (by kernel_rfl) (by kernel_rfl) (by kernel_rfl) (by kernel_rfl) (by exact fun _ _ _ h => h) (Or.inl ⟨by rfl, ?_⟩) (by assumption) ?_
        rotate_left
        · intro wS hSw
          go_simp
          all_goals first | with_reducible rfl | rw [if_neg (by omega)]
        simp only [Act.put, List.setIfInBounds_toArray, List.set]
        refine wpAnyL_take (i := 11) (oi := _) (v := ?_) (by (simp only [List.getElem?_toArray]; rfl)) (by kernel_rfl) (by kernel_rfl) (by kernel_rfl) (by kernel_rfl) (by exact fun _ _ _ h => h) (Or.inl ⟨by rfl, ?_⟩) (by assumption) ?_
        rotate_left
        · intro wS hSw
          go_simp
          all_goals first | with_reducible rfl | rw [if_neg (by omega)]
        simp only [Act.put, List.setIfInBounds_toArray, List.set]
        refine wpAnyL_take (i := 12) (oi := _) (v := ?_) (by (simp only [List.getElem?_toArray]; rfl)) (by kernel_rfl) (by kernel_rfl) (by kernel_rfl) (by kernel_rfl) (by exact fun _ _ _ h => h) (Or.inl ⟨by rfl, ?_⟩) (by assumption) ?_
        rotate_left
        · intro wS hSw
          go_simp
          all_goals first | with_reducible rfl | rw [if_neg (by omega)]
        simp only [Act.put, List.setIfInBounds_toArray, List.set]
        refine wpAnyL_ready (rs := [13]) (by kernel_rfl) (by simp) ?_
        refine AllReadyL.cons (o := _) (by (simp only [List.getElem?_toArray]; rfl)) (fun K hK => ?_) AllReadyL.nil
        go_simp
        obtain ⟨wr_2, hw_, sw_, hv_, kw_⟩ := blocks1 wr_1 (.cells #[.int .i64 0, .int .i64 0, .bool false, .int .i64 0, .slice none 0 0, .slice none 0 0, .slice none 0 0] 78)
        rw [← hw_]
        clear hw_
        have hgl_ : wr_1.heap.size < wr_2.heap.size := by omega
        have hg0_ : wr.heap.size ≤ wr_1.heap.size := Nat.le_trans hBW hS.2.size
        have hgX := Lib.hid (show BlkIs wr_1.heap.size #[.int .i64 0, .int .i64 0, .bool false, .int .i64 0, .slice none 0 0, .slice none 0 0, .slice none 0 0] 78 wr_2 from hv_)
        clear hv_ sw_
        replace R2 := Lib.hid (R2.out.box kw_ wr_2.heap.size)
        replace S2 := Lib.hid (S2.out.box kw_ wr_2.heap.size)
        have hRK : Below wr.heap.size wr wr_2 := hS.2.trans (kw_.mono (Nat.le_trans hBW hS.2.size))
        clear hS
        have hS := KeptB.of hRK
        clear hRK
        clear kw_
        refine hK.out _ _ (fun _ => hS) ?_
        clear hK K
        try simp only [Act.put, List.setIfInBounds_toArray, List.set]
        refine wpAnyL_ready (rs := [14]) (by kernel_rfl) (by simp) ?_
        refine AllReadyL.cons (o := _) (by (simp only [List.getElem?_toArray]; rfl)) (fun K hK => ?_) AllReadyL.nil
        have zq_ := hgX.out
        unfold BlkIs at zq_
        have cq_ := cell_of_block zq_
        have fq_ := unfrozen_of_block zq_
        have lq_ := lt_of_block zq_
        go_simp
        obtain ⟨Q1, hV_, sV_, x9, oV_, kV_⟩ := stored7 wr_2 (wr_1.heap.size) _ _ _ _ _ _ _ (.int .i64 r2.me) (.int .i64 r2.view) (.bool r2.live) (.int .i64 r2.nx) (.slice r2.ta r2.tk.length r2.tc) (.slice r2.ha r2.hd.length r2.hc) (.slice r2.da r2.dn.length r2.dc) zq_
        rw [← hV_]
        clear hV_
        replace R2 := Lib.hid (Rob.weak (X' := OwX X1 a cc) (R2.out.stored sV_ oV_ (by first | exact .inr ⟨hg0_, hgl_⟩ | exact .inr ⟨Nat.le_refl _, hgl_⟩)) (by first | exact fun b hb => .inl hb | exact fun b hb => .inl (.inl hb)))
        replace S2 := Lib.hid (Rob.weak (X' := OwX X1 a cc) (S2.out.stored sV_ oV_ (by first | exact .inr ⟨hg0_, hgl_⟩ | exact .inr ⟨Nat.le_refl _, hgl_⟩)) (by first | exact fun b hb => .inl hb | exact fun b hb => .inl (.inl hb)))
        have KQ := Lib.hid (hS.2.trans (kV_.mono hg0_))
        replace hS := KeptB.of KQ.out
        clear zq_ cq_ fq_ lq_ kV_ oV_ sV_ hgX
        refine hK.out _ _ (fun _ => hS) ?_
        clear hK K
        try simp only [Act.put, List.setIfInBounds_toArray, List.set]
        refine wpAnyL_take (i := 15) (oi := _) (v := ?_) (by (simp only [List.getElem?_toArray]; rfl)) (by kernel_rfl) (by kernel_rfl) (by kernel_rfl) (by kernel_rfl) (by exact fun _ _ _ h => h) (Or.inl ⟨by rfl, ?_⟩) (by assumption) ?_
        rotate_left
        · intro wS hSw
          go_simp
          all_goals first | with_reducible rfl | rw [if_neg (by omega)]
        simp only [Act.put, List.setIfInBounds_toArray, List.set]
        refine wpAnyL_done (by kernel_rfl) ?_ _
        clear hS d0 d1 d2 d3 d4 hgl_
        clear cx fx lx
        have lz_ := lt_of_block z
        replace x := carryB KQ.out (lt_of_block x) x
        replace z := carryB KQ.out lz_ z
        replace RW := Lib.hid (RW.out.below KQ.out)
        replace AP := Lib.hid (AP.out.below KQ.out)
        replace PI := Lib.hid (PI.out.below KQ.out)
        replace K := below_next K KQ.out
        have hne1_ : ¬ (wr_1.heap.size = w.heap.size) := by omega
        have hne2_ : ¬ (w.heap.size = wr_1.heap.size) := by omega
        replace hs := Nat.le_trans hs KQ.out.size
        clear KQ lz_ R
        have cx := cell_of_block x
        have fx := unfrozen_of_block x
        have lx := lt_of_block x
        have cx9 := cell_of_block x9
        have fx9 := unfrozen_of_block x9
        have lx9 := lt_of_block x9
        go_upto_region 11 with fail
        obtain ⟨Q2, hV_, sV, xV, oV, kV⟩ := stored7 Q1 w.heap.size _ _ _ _ _ _ _ (.int .i64 r2.me) (.int .i64 r2.view) (.bool r2.live) (.int .i64 r2.nx) (.slice r2.ta r2.tk.length r2.tc) (.slice r2.ha r2.hd.length r2.hc) (.slice r2.da r2.dn.length r2.dc) x
        rw [← hV_]
        clear hV_
        clear cx fx lx cx9 fx9 lx9
        replace x := xV
        replace z := (oV _ (by omega)).trans z
        replace R2 := Lib.hid (R2.out.stored sV oV (.inl (hin _ (by omega) (by omega))))
        replace S2 := Lib.hid (S2.out.stored sV oV (.inl (hin _ (by omega) (by omega))))
        replace AP := Lib.hid (AP.out.stored sV oV (.inl (hin _ (by omega) (by omega))))
        replace PI := Lib.hid (PI.out.stored sV oV (.inl (hin _ (by omega) (by omega))))
        replace RW := Lib.hid (RW.out.later sV oV (by omega))
        replace K := K.trans (kV.mono (by omega))
        replace hs : W.heap.size ≤ Q2.heap.size := by omega
        clear xV oV kV sV x9 hne1_ hne2_
        have hl6 : sy.length ≤ 5 := by omega
        have hl7 : sy2.length ≤ 1 := LN2.out
        go_wp2_with (at_builtin; refine wpList_append_rowM rfl _ _ rfl (sy.length + sy2.length) elmMg rfl rfl RW.out (ys := sy2) (fun z hz => mg_one (S2.out.out.2 z hz)) (S2.out.out.1.bounds.2.2.2) rfl rfl rfl (by simp only [maxLen]; omega) (by omega) (by omega) ?_)
        intro a3 c3 Q3 q3
        have hrb_ : ∀ g, rowBlk a cc = some g → W.heap.size ≤ g := fun g hg => (RW.out.blk hg).1
        have k3_ : Below W.heap.size Q2 Q3 := q3.below hs hrb_
        replace x := carryB k3_ (by omega) x
        replace z := carryB k3_ (by omega) z
        replace R2 := Lib.hid (R2.out.appendedX q3)
        replace PI := Lib.hid (PI.out.appendedX q3)
        replace AP := Lib.hid (((AP.out.and (S2.out.imp fun V h => h.2)).imp (G := fun V => ∀ m ∈ sy ++ sy2, m.ok V) (fun V h m hm => (List.mem_append.1 hm).elim (h.1 m) (h.2 m))).appendedX q3)
        replace RW := Lib.hid q3.row
        replace MF := Lib.hid (fit_append MF.out MF2.out)
        replace K := Lib.hid (K.trans (k3_.mono (by omega)))
        replace hs := Nat.le_trans hs k3_.size
        clear k3_ q3 hrb_ S2
        have X_ := Lib.hid x
        have Z_ := Lib.hid z
        clear x z
        go_wp2_with fail
        go_roundw
        case rel => exact ⟨k + 1, r2, a3, c3, sy ++ sy2, by omega, by go_num, by first | rfl | simp, X_.out, Z_.out, R2.out, F2.out, RW.out, AP.out, PI.out, MF.out, by simp; omega, hs, K.out⟩
        case measure => simp [intOf]; omega
      refine AllReadyL.cons (o := _) (by (simp only [List.getElem?_toArray]; rfl)) (fun K hK => ?_) ?_
      · skip
        go_simp
        obtain ⟨wr_1, hw_, sw_, hv_, kw_⟩ := blocks1 wr_0 (.cells #[.int .i64 0, .int .i64 0, .bool false, .int .i64 0, .slice none 0 0, .slice none 0 0, .slice none 0 0] 78)
        rw [← hw_]
        clear hw_
        have hgl_ : wr_0.heap.size < wr_1.heap.size := by omega
        have hg0_ : wr.heap.size ≤ wr_0.heap.size := Nat.le_trans hBW hS.2.size
        have hgX := Lib.hid (show BlkIs wr_0.heap.size #[.int .i64 0, .int .i64 0, .bool false, .int .i64 0, .slice none 0 0, .slice none 0 0, .slice none 0 0] 78 wr_1 from hv_)
        clear hv_ sw_
        have hRK : Below wr.heap.size wr wr_1 := hS.2.trans (kw_.mono (Nat.le_trans hBW hS.2.size))
        clear hS
        have hS := KeptB.of hRK
        clear hRK
        clear kw_
        refine hK.out _ _ (fun _ => hS) ?_
        clear hK K
        try simp only [Act.put, List.setIfInBounds_toArray, List.set]
        refine wpAnyL_ready (rs := [9]) (by kernel_rfl) (by simp) ?_
        refine AllReadyL.cons (o := _) (by (simp only [List.getElem?_toArray]; rfl)) (fun K hK => ?_) AllReadyL.nil
        go_simp
        refine (l5Yes_c (Bx (OwX X1 a cc) wr.heap.size wr_1.heap.size) (T + k) D r1 ⟨IntKind.i64.wrap ((k : Int) + 1), view, p⟩ wr_1 (R.out.box hS.2 _) FF.out (Bx.lt (OwX.lt (fun b hb => Nat.lt_of_lt_of_le (hlt b hb) hs) RW.out) hS.2.size) (by omega)).mono ?_
        rintro e wr_2 ⟨r2, a2, c2, sy2, rfl, hr2, hf2, hsy2, hmf2, hln2, kw_⟩
        have hRK : Below wr.heap.size wr wr_2 := hS.2.trans (kw_.mono (Nat.le_trans hBW hS.2.size))
        clear hS
        have hS := KeptB.of hRK
        clear hRK
        replace hgX := Lib.hid (hgX.out.below kw_)
        clear kw_
        have R2 := Lib.hid hr2
        have F2 := Lib.hid hf2
        have S2 := Lib.hid hsy2
        have MF2 := Lib.hid hmf2
        have LN2 := Lib.hid hln2
        clear hr2 hf2 hsy2 hmf2 hln2
        refine hK.out _ _ (fun _ => hS) ?_
        clear hK K
        try simp only [Act.put, List.setIfInBounds_toArray, List.set]
        refine wpAnyL_take (i := 10) (oi := _) (v := ?_) (by (simp only [List.getElem?_toArray]; rfl)) (by kernel_rfl) (by kernel_rfl) (by kernel_rfl) (by kernel_rfl) (by exact fun _ _ _ h => h) (Or.inl ⟨by rfl, ?_⟩) (by assumption) ?_
        rotate_left
        · intro wS hSw
          go_simp
          all_goals first | with_reducible rfl | rw [if_neg (by omega)]
        simp only [Act.put, List.setIfInBounds_toArray, List.set]
        refine wpAnyL_take (i := 11) (oi := _) (v := ?_) (by (simp only [List.getElem?_toArray]; rfl)) (by kernel_rfl) (by kernel_rfl) (by kernel_rfl) (by kernel_rfl) (by exact fun _ _ _ h => h) (Or.inl ⟨by rfl, ?_⟩) (by assumption) ?_
        rotate_left
        · intro wS hSw
          go_simp
          all_goals first | with_reducible rfl | rw [if_neg (by omega)]
        simp only [Act.put, List.setIfInBounds_toArray, List.set]
        refine wpAnyL_take (i := 12) (oi := _) (v := ?_) (by (simp only [List.getElem?_toArray]; rfl)) (by kernel_rfl) (by kernel_rfl) (by kernel_rfl) (by kernel_rfl) (by exact fun _ _ _ h => h) (Or.inl ⟨by rfl, ?_⟩) (by assumption) ?_
        rotate_left
        · intro wS hSw
          go_simp
          all_goals first | with_reducible rfl | rw [if_neg (by omega)]
        simp only [Act.put, List.setIfInBounds_toArray, List.set]
        refine wpAnyL_ready (rs := [14]) (by kernel_rfl) (by simp) ?_
        refine AllReadyL.cons (o := _) (by (simp only [List.getElem?_toArray]; rfl)) (fun K hK => ?_) AllReadyL.nil
        have zq_ := hgX.out
        unfold BlkIs at zq_
        have cq_ := cell_of_block zq_
        have fq_ := unfrozen_of_block zq_
        have lq_ := lt_of_block zq_
        go_simp
        obtain ⟨Q1, hV_, sV_, x9, oV_, kV_⟩ := stored7 wr_2 (wr_0.heap.size) _ _ _ _ _ _ _ (.int .i64 r2.me) (.int .i64 r2.view) (.bool r2.live) (.int .i64 r2.nx) (.slice r2.ta r2.tk.length r2.tc) (.slice r2.ha r2.hd.length r2.hc) (.slice r2.da r2.dn.length r2.dc) zq_
        rw [← hV_]
        clear hV_
        replace R2 := Lib.hid (Rob.weak (X' := OwX X1 a cc) (R2.out.stored sV_ oV_ (by first | exact .inr ⟨hg0_, hgl_⟩ | exact .inr ⟨Nat.le_refl _, hgl_⟩)) (by first | exact fun b hb => .inl hb | exact fun b hb => .inl (.inl hb)))
        replace S2 := Lib.hid (Rob.weak (X' := OwX X1 a cc) (S2.out.stored sV_ oV_ (by first | exact .inr ⟨hg0_, hgl_⟩ | exact .inr ⟨Nat.le_refl _, hgl_⟩)) (by first | exact fun b hb => .inl hb | exact fun b hb => .inl (.inl hb)))
        have KQ := Lib.hid (hS.2.trans (kV_.mono hg0_))
        replace hS := KeptB.of KQ.out
        clear zq_ cq_ fq_ lq_ kV_ oV_ sV_ hgX
        refine hK.out _ _ (fun _ => hS) ?_
        clear hK K
        try simp only [Act.put, List.setIfInBounds_toArray, List.set]
        refine wpAnyL_take (i := 15) (oi := _) (v := ?_) (by (simp only [List.getElem?_toArray]; rfl)) (by kernel_rfl) (by kernel_rfl) (by kernel_rfl) (by kernel_rfl) (by exact fun _ _ _ h => h) (Or.inl ⟨by rfl, ?_⟩) (by assumption) ?_
        rotate_left
        · intro wS hSw
          go_simp
          all_goals first | with_reducible rfl | rw [if_neg (by omega)]
        simp only [Act.put, List.setIfInBounds_toArray, List.set]
        refine wpAnyL_done (by kernel_rfl) ?_ _
        clear hS d0 d1 d2 d3 d4 hgl_
        clear cx fx lx
        have lz_ := lt_of_block z
        replace x := carryB KQ.out (lt_of_block x) x
        replace z := carryB KQ.out lz_ z
        replace RW := Lib.hid (RW.out.below KQ.out)
        replace AP := Lib.hid (AP.out.below KQ.out)
        replace PI := Lib.hid (PI.out.below KQ.out)
        replace K := below_next K KQ.out
        have hne1_ : ¬ (wr_0.heap.size = w.heap.size) := by omega
        have hne2_ : ¬ (w.heap.size = wr_0.heap.size) := by omega
        replace hs := Nat.le_trans hs KQ.out.size
        clear KQ lz_ R
        have cx := cell_of_block x
        have fx := unfrozen_of_block x
        have lx := lt_of_block x
        have cx9 := cell_of_block x9
        have fx9 := unfrozen_of_block x9
        have lx9 := lt_of_block x9
        go_upto_region 11 with fail
        obtain ⟨Q2, hV_, sV, xV, oV, kV⟩ := stored7 Q1 w.heap.size _ _ _ _ _ _ _ (.int .i64 r2.me) (.int .i64 r2.view) (.bool r2.live) (.int .i64 r2.nx) (.slice r2.ta r2.tk.length r2.tc) (.slice r2.ha r2.hd.length r2.hc) (.slice r2.da r2.dn.length r2.dc) x
        rw [← hV_]
        clear hV_
        clear cx fx lx cx9 fx9 lx9
        replace x := xV
        replace z := (oV _ (by omega)).trans z
        replace R2 := Lib.hid (R2.out.stored sV oV (.inl (hin _ (by omega) (by omega))))
        replace S2 := Lib.hid (S2.out.stored sV oV (.inl (hin _ (by omega) (by omega))))
        replace AP := Lib.hid (AP.out.stored sV oV (.inl (hin _ (by omega) (by omega))))
        replace PI := Lib.hid (PI.out.stored sV oV (.inl (hin _ (by omega) (by omega))))
        replace RW := Lib.hid (RW.out.later sV oV (by omega))
        replace K := K.trans (kV.mono (by omega))
        replace hs : W.heap.size ≤ Q2.heap.size := by omega
        clear xV oV kV sV x9 hne1_ hne2_
        have hl6 : sy.length ≤ 5 := by omega
        have hl7 : sy2.length ≤ 1 := LN2.out
        go_wp2_with (at_builtin; refine wpList_append_rowM rfl _ _ rfl (sy.length + sy2.length) elmMg rfl rfl RW.out (ys := sy2) (fun z hz => mg_one (S2.out.out.2 z hz)) (S2.out.out.1.bounds.2.2.2) rfl rfl rfl (by simp only [maxLen]; omega) (by omega) (by omega) ?_)
        intro a3 c3 Q3 q3
        have hrb_ : ∀ g, rowBlk a cc = some g → W.heap.size ≤ g := fun g hg => (RW.out.blk hg).1
        have k3_ : Below W.heap.size Q2 Q3 := q3.below hs hrb_
        replace x := carryB k3_ (by omega) x
        replace z := carryB k3_ (by omega) z
        replace R2 := Lib.hid (R2.out.appendedX q3)
        replace PI := Lib.hid (PI.out.appendedX q3)
        replace AP := Lib.hid (((AP.out.and (S2.out.imp fun V h => h.2)).imp (G := fun V => ∀ m ∈ sy ++ sy2, m.ok V) (fun V h m hm => (List.mem_append.1 hm).elim (h.1 m) (h.2 m))).appendedX q3)
        replace RW := Lib.hid q3.row
        replace MF := Lib.hid (fit_append MF.out MF2.out)
        replace K := Lib.hid (K.trans (k3_.mono (by omega)))
        replace hs := Nat.le_trans hs k3_.size
        clear k3_ q3 hrb_ S2
        have X_ := Lib.hid x
        have Z_ := Lib.hid z
        clear x z
        go_wp2_with fail
        go_roundw
        case rel => exact ⟨k + 1, r2, a3, c3, sy ++ sy2, by omega, by go_num, by first | rfl | simp, X_.out, Z_.out, R2.out, F2.out, RW.out, AP.out, PI.out, MF.out, by simp; omega, hs, K.out⟩
        case measure => simp [intOf]; omega
      exact AllReadyL.nil
    · have hkf : ¬ ((k : Int) < (ps.length : Int)) := by omega
      have cx := cell_of_block x
      have fx := unfrozen_of_block x
      have lx := lt_of_block x
      have cz := cell_of_block z
      have fz := unfrozen_of_block z
      have lz := lt_of_block z
      go_wp2_with fail
      refine bodyPost_ret (v := .tuple #[.agg #[.int .i64 r1.me, .int .i64 r1.view, .bool r1.live, .int .i64 r1.nx, .slice r1.ta r1.tk.length r1.tc, .slice r1.ha r1.hd.length r1.hc, .slice r1.da r1.dn.length r1.dc], .slice a sy.length cc]) (by simp [results, Try.results108, go_sem, cz]) rfl ?_
      refine ⟨r1, a, cc, sy, rfl, Rob.weak (X := OwX X1 a cc) ?_ (fun b hb => .inl (hsub b hb)), FF.out.more (by omega) (Nat.le_refl _), fun V' hV' => ⟨Rob.ofLo (B := W.heap.size) (F := fun V' => IsSl V' (.slice a sy.length cc) 11 Mg.cs sy) ?_ (fun b hb => hlt b (hsub b hb)) V' hV', Rob.weak (X := OwX X1 a cc) (F := fun V' => ∀ m ∈ sy, m.ok V') ?_ (fun b hb => .inl (hsub b hb)) V' hV'⟩, MF.out, by omega, (by repeat' (first | with_reducible exact Below.refl _ _ | with_reducible assumption | with_reducible refine Below.alloc ?_ ?_ _ | with_reducible refine Below.drew ?_ | with_reducible refine Below.setCell ?_ ?_ _ | omega | (simp; omega) | (simp; done)))⟩
      · have hR := R.out
        repeat' (first | with_reducible exact hR | refine Rob.setX ?_ (.inl (hin _ (by simp only; omega) (by simp only; omega))) _)
      · have h1 : Rob (Lo W.heap.size) (fun V' => IsSl V' (.slice a sy.length cc) 11 Mg.cs sy) wr := RW.out.rob eleven_len
        repeat' (first | with_reducible exact h1 | refine Rob.set ?_ (by simp only; omega) _)
      · have hR := AP.out
        repeat' (first | with_reducible exact hR | refine Rob.setX ?_ (.inl (hin _ (by simp only; omega) (by simp only; omega))) _)
end Go.Proofs.Ytgdhieffjflejaa
