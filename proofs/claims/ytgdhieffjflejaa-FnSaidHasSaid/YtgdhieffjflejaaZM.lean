/- A keeper copied (l5Copy): some keeper; condition: small sizes. | A world copied (l6Copy): what was said, copied; condition: small sizes. | An event of a world (l6Do): a world that fits; condition: small sizes. -/
import Derived.Test.YtgdhieffjflejaaZK
import Derived.Test.YtgdhieffjflejaaZL
import Derived.Test.YtgdhieffjflejaaZH
set_option linter.unusedSimpArgs false
set_option linter.unusedVariables false
/-! K16 -/
namespace Go.Proofs.Ytgdhieffjflejaa
open Go.RowKit Go.Joins

/-- Some keeper. -/
def SomeKeeper (w : World) (e : Ending) (w' : World) : Prop := ∃ r : Rk, e = .returned (.agg #[.int .i64 r.me, .int .i64 r.view, .bool r.live, .int .i64 r.nx, .slice r.ta r.tk.length r.tc, .slice r.ha r.hd.length r.hc, .slice r.da r.dn.length r.dc]) ∧ Below w.heap.size w w'

set_option maxRecDepth 100000 in
set_option maxHeartbeats 16000000 in
theorem l5Copy_w (T D : Nat) (r : Rk) (w : World) (h : r.ok w) (hf : r.fit T D) (hT : T ≤ 900000) (hD : D ≤ 900000) :
  Calls Try.prog 76 #[.agg #[.int .i64 r.me, .int .i64 r.view, .bool r.live, .int .i64 r.nx, .slice r.ta r.tk.length r.tc, .slice r.ha r.hd.length r.hc, .slice r.da r.dn.length r.dc]] w (SomeKeeper w) := by
 have HC := Lib.hid h.2.1.2
 have MF := Lib.hid hf.ms
 have htl : r.tk.length ≤ 900000 := Nat.le_trans hf.tk hT
 have hdl : r.dn.length ≤ 900000 := Nat.le_trans hf.dn hD
 have hhl : r.hd.length ≤ 120 := hf.hd
 have HTK := Lib.hid h.1.bounds.2.2.2
 have HDN := Lib.hid h.2.2.bounds.2.2.2
 obtain ⟨-, hlc, hmx, hrt⟩ := h.2.1.1.bounds
 have HT := Lib.hid hrt
 unfold maxLen at hmx
 clear h hf hrt
 go_enter Try.func76, Try.ntmps76
 go_upto_region 1 with fail
 obtain ⟨W, hW_, sW, x, z, kW⟩ := blocks2 w (.cells #[.int .i64 r.me, .int .i64 r.view, .bool r.live, .int .i64 r.nx, .slice r.ta r.tk.length r.tc, .slice r.ha r.hd.length r.hc, .slice r.da r.dn.length r.dc] 78) (.cells #[.int .i64 0, .int .i64 0, .bool false, .int .i64 0, .slice none 0 0, .slice none 0 0, .slice none 0 0] 78)
 rw [← hW_]
 clear hW_
 have hsW : w.heap.size + 2 ≤ W.heap.size := by omega
 clear sW
 replace HTK := Lib.hid (HTK.out.below kW)
 replace HDN := Lib.hid (HDN.out.below kW)
 go_cut [3] (fun s3 wx => ∃ (g : Nat) (a1 a2 : Option Addr) (c1 c2 : Nat), s3 = .pointer (some ⟨g, 0, none⟩) ∧ W.heap.size ≤ g ∧ wx.heap[g]? = some (.cells #[.int .i64 r.me, .int .i64 r.view, .bool r.live, .int .i64 r.nx, .slice a1 r.tk.length c1, .slice none 0 0, .slice a2 r.dn.length c2] 78 (0, 0)) ∧ Below W.heap.size W wx)
 case first =>
  have hBW := Nat.le_refl W.heap.size
  have cx := cell_of_block x
  have fx := unfrozen_of_block x
  have lx := lt_of_block x
  refine wp_region_L (fun w' => ((∀ b o, b < W.heap.size → (w').cell? ⟨b, o, none⟩ = (W).cell? ⟨b, o, none⟩) ∧ Below (W.heap.size) (W) (w'))) [] (by kernel_rfl) ?_
  obtain ⟨W_0, hw_, kw_⟩ : ∃ wd, wd = W.drew ∧ Below W.heap.size W wd := ⟨_, rfl, Below.drew (Below.refl _ _)⟩
  rw [← hw_]
  clear hw_
  have hS := KeptB.of (kw_.mono hBW)
  replace HTK := Lib.hid (HTK.out.below kw_)
  replace HDN := Lib.hid (HDN.out.below kw_)
  clear kw_
  refine wpAnyL_take (i := 0) (oi := _) (v := ?_) (by (simp only [List.getElem?_toArray]; rfl)) (by kernel_rfl) (by kernel_rfl) (by kernel_rfl) (by kernel_rfl) (by exact fun _ _ _ h => h) (Or.inl ⟨by rfl, ?_⟩) (by assumption) ?_
  rotate_left
  ·
   intro wS hSw
   go_simp
   all_goals first | with_reducible rfl | rw [if_neg (by omega)]
  simp only [Act.put, List.setIfInBounds_toArray, List.set]
  refine wpAnyL_take (i := 1) (oi := _) (v := ?_) (by (simp only [List.getElem?_toArray]; rfl)) (by kernel_rfl) (by kernel_rfl) (by kernel_rfl) (by kernel_rfl) (by exact fun _ _ _ h => h) (Or.inl ⟨by rfl, ?_⟩) (by assumption) ?_
  rotate_left
  ·
   intro wS hSw
   go_simp
   all_goals first | with_reducible rfl | rw [if_neg (by omega)]
  simp only [Act.put, List.setIfInBounds_toArray, List.set]
  refine wpAnyL_take (i := 2) (oi := _) (v := ?_) (by (simp only [List.getElem?_toArray]; rfl)) (by kernel_rfl) (by kernel_rfl) (by kernel_rfl) (by kernel_rfl) (by exact fun _ _ _ h => h) (Or.inl ⟨by rfl, ?_⟩) (by assumption) ?_
  rotate_left
  ·
   intro wS hSw
   go_simp
   all_goals first | with_reducible rfl | rw [if_neg (by omega)]
  simp only [Act.put, List.setIfInBounds_toArray, List.set]
  refine wpAnyL_take (i := 3) (oi := _) (v := ?_) (by (simp only [List.getElem?_toArray]; rfl)) (by kernel_rfl) (by kernel_rfl) (by kernel_rfl) (by kernel_rfl) (by exact fun _ _ _ h => h) (Or.inl ⟨by rfl, ?_⟩) (by assumption) ?_
  rotate_left
  ·
   intro wS hSw
   go_simp
   all_goals first | with_reducible rfl | rw [if_neg (by omega)]
  simp only [Act.put, List.setIfInBounds_toArray, List.set]
  refine wpAnyL_take (i := 4) (oi := _) (v := ?_) (by (simp only [List.getElem?_toArray]; rfl)) (by kernel_rfl) (by kernel_rfl) (by kernel_rfl) (by kernel_rfl) (by exact fun _ _ _ h => h) (Or.inl ⟨by rfl, ?_⟩) (by assumption) ?_
  rotate_left
  ·
   intro wS hSw
   go_simp
   all_goals first | with_reducible rfl | rw [if_neg (by omega)]
  simp only [Act.put, List.setIfInBounds_toArray, List.set]
  refine wpAnyL_take (i := 5) (oi := _) (v := ?_) (by (simp only [List.getElem?_toArray]; rfl)) (by kernel_rfl) (by kernel_rfl) (by kernel_rfl) (by kernel_rfl) (by exact fun _ _ _ h => h) (Or.inl ⟨by rfl, ?_⟩) (by assumption) ?_
  rotate_left
  ·
   intro wS hSw
   go_simp
   all_goals first | with_reducible rfl | rw [if_neg (by omega)]
  simp only [Act.put, List.setIfInBounds_toArray, List.set]
  refine wpAnyL_take (i := 6) (oi := _) (v := ?_) (by (simp only [List.getElem?_toArray]; rfl)) (by kernel_rfl) (by kernel_rfl) (by kernel_rfl) (by kernel_rfl) (by exact fun _ _ _ h => h) (Or.inl ⟨by rfl, ?_⟩) (by assumption) ?_
  rotate_left
  ·
   intro wS hSw
   go_simp
   all_goals first | with_reducible rfl | rw [if_neg (by omega)]
  simp only [Act.put, List.setIfInBounds_toArray, List.set]
  refine wpAnyL_take (i := 7) (oi := _) (v := ?_) (by (simp only [List.getElem?_toArray]; rfl)) (by kernel_rfl) (by kernel_rfl) (by kernel_rfl) (by kernel_rfl) (by exact fun _ _ _ h => h) (Or.inl ⟨by rfl, ?_⟩) (by assumption) ?_
  rotate_left
  ·
   intro wS hSw
   go_simp
   all_goals first | with_reducible rfl | rw [if_neg (by omega)]
  simp only [Act.put, List.setIfInBounds_toArray, List.set]
  refine wpAnyL_take (i := 9) (oi := _) (v := ?_) (by (simp only [List.getElem?_toArray]; rfl)) (by kernel_rfl) (by kernel_rfl) (by kernel_rfl) (by kernel_rfl) (by exact fun _ _ _ h => h) (Or.inl ⟨by rfl, ?_⟩) (by assumption) ?_
  rotate_left
  ·
   intro wS hSw
   go_simp
   all_goals first | with_reducible rfl | rw [if_neg (by omega)]
  simp only [Act.put, List.setIfInBounds_toArray, List.set]
  refine wpAnyL_take (i := 10) (oi := _) (v := ?_) (by (simp only [List.getElem?_toArray]; rfl)) (by kernel_rfl) (by kernel_rfl) (by kernel_rfl) (by kernel_rfl) (by exact fun _ _ _ h => h) (Or.inl ⟨by rfl, ?_⟩) (by assumption) ?_
  rotate_left
  ·
   intro wS hSw
   go_simp
   all_goals first | with_reducible rfl | rw [if_neg (by omega)]
  simp only [Act.put, List.setIfInBounds_toArray, List.set]
  refine wpAnyL_take (i := 13) (oi := _) (v := ?_) (by (simp only [List.getElem?_toArray]; rfl)) (by kernel_rfl) (by kernel_rfl) (by kernel_rfl) (by kernel_rfl) (by exact fun _ _ _ h => h) (Or.inl ⟨by rfl, ?_⟩) (by assumption) ?_
  rotate_left
  ·
   intro wS hSw
   go_simp
   all_goals first | with_reducible rfl | rw [if_neg (by omega)]
  simp only [Act.put, List.setIfInBounds_toArray, List.set]
  refine wpAnyL_take (i := 14) (oi := _) (v := ?_) (by (simp only [List.getElem?_toArray]; rfl)) (by kernel_rfl) (by kernel_rfl) (by kernel_rfl) (by kernel_rfl) (by exact fun _ _ _ h => h) (Or.inl ⟨by rfl, ?_⟩) (by assumption) ?_
  rotate_left
  ·
   intro wS hSw
   go_simp
   all_goals first | with_reducible rfl | rw [if_neg (by omega)]
  simp only [Act.put, List.setIfInBounds_toArray, List.set]
  refine wpAnyL_ready (rs := [8, 12, 17]) (by kernel_rfl) (by simp) ?_
  refine AllReadyL.cons (o := _) (by (simp only [List.getElem?_toArray]; rfl)) (fun K hK => ?_) ?_
  ·
   skip
   refine step_build0M (by rfl) (by rfl) elmCl ?_
   obtain ⟨W_1, hw_, kw_⟩ : ∃ V, V = W_0.alloc (.cells #[] 62) ∧ Below W_0.heap.size W_0 V := ⟨_, rfl, (Below.refl _ _).alloc (Nat.le_refl _) _⟩
   rw [← hw_]
   clear hw_
   have hRK : Below W.heap.size W W_1 := hS.2.trans (kw_.mono (Nat.le_trans hBW hS.2.size))
   clear hS
   have hS := KeptB.of hRK
   clear hRK
   replace HTK := Lib.hid (HTK.out.below kw_)
   replace HDN := Lib.hid (HDN.out.below kw_)
   clear kw_
   refine hK.out _ _ (fun _ => hS) ?_
   clear hK K
   try simp only [Act.put, List.setIfInBounds_toArray, List.set]
   refine wpAnyL_ready (rs := [11, 12, 17]) (by kernel_rfl) (by simp) ?_
   refine AllReadyL.cons (o := _) (by (simp only [List.getElem?_toArray]; rfl)) (fun K hK => ?_) ?_
   ·
    skip
    refine step_append_newM W_1.heap.size (by rfl) (.tmp 13) (.tmp 15) (by rfl) elmCl (by rfl) (by rfl) (fun z _ => cl_one z) (HTK.out) (by rfl) (by simp only [maxLen]; omega) (by omega) (Nat.le_refl _) ?_
    intro a1 c1 W_2 q_
    have hq_ : W.heap.size ≤ W_1.heap.size := Nat.le_trans hBW hS.2.size
    have kw_ := q_.below
    have hRK : Below W.heap.size W W_2 := hS.2.trans (kw_.mono (Nat.le_trans hBW hS.2.size))
    clear hS
    have hS := KeptB.of hRK
    clear hRK
    replace HTK := Lib.hid (HTK.out.below kw_)
    replace HDN := Lib.hid (HDN.out.below kw_)
    clear kw_
    clear q_ hq_
    refine hK.out _ _ (fun _ => hS) ?_
    clear hK K
    try simp only [Act.put, List.setIfInBounds_toArray, List.set]
    refine wpAnyL_ready (rs := [12, 17]) (by kernel_rfl) (by simp) ?_
    refine AllReadyL.cons (o := _) (by (simp only [List.getElem?_toArray]; rfl)) (fun K hK => ?_) ?_
    ·
     skip
     refine step_build0M (by rfl) (by rfl) elmCl ?_
     obtain ⟨W_3, hw_, kw_⟩ : ∃ V, V = W_2.alloc (.cells #[] 62) ∧ Below W_2.heap.size W_2 V := ⟨_, rfl, (Below.refl _ _).alloc (Nat.le_refl _) _⟩
     rw [← hw_]
     clear hw_
     have hRK : Below W.heap.size W W_3 := hS.2.trans (kw_.mono (Nat.le_trans hBW hS.2.size))
     clear hS
     have hS := KeptB.of hRK
     clear hRK
     replace HTK := Lib.hid (HTK.out.below kw_)
     replace HDN := Lib.hid (HDN.out.below kw_)
     clear kw_
     refine hK.out _ _ (fun _ => hS) ?_
     clear hK K
     try simp only [Act.put, List.setIfInBounds_toArray, List.set]
     refine wpAnyL_ready (rs := [15, 17]) (by kernel_rfl) (by simp) ?_
     refine AllReadyL.cons (o := _) (by (simp only [List.getElem?_toArray]; rfl)) (fun K hK => ?_) ?_
     ·
      skip
      refine step_append_newM W_3.heap.size (by rfl) (.tmp 17) (.tmp 19) (by rfl) elmCl (by rfl) (by rfl) (fun z _ => cl_one z) (HDN.out) (by rfl) (by simp only [maxLen]; omega) (by omega) (Nat.le_refl _) ?_
      intro a2 c2 W_4 q_
      have hq_ : W.heap.size ≤ W_3.heap.size := Nat.le_trans hBW hS.2.size
      have kw_ := q_.below
      have hRK : Below W.heap.size W W_4 := hS.2.trans (kw_.mono (Nat.le_trans hBW hS.2.size))
      clear hS
      have hS := KeptB.of hRK
      clear hRK
      replace HTK := Lib.hid (HTK.out.below kw_)
      replace HDN := Lib.hid (HDN.out.below kw_)
      clear kw_
      clear q_ hq_
      refine hK.out _ _ (fun _ => hS) ?_
      clear hK K
      try simp only [Act.put, List.setIfInBounds_toArray, List.set]
      refine wpAnyL_take (i := 16) (oi := _) (v := ?_) (by (simp only [List.getElem?_toArray]; rfl)) (by kernel_rfl) (by kernel_rfl) (by kernel_rfl) (by kernel_rfl) (by exact fun _ _ _ h => h) (Or.inl ⟨by rfl, ?_⟩) (by assumption) ?_
      rotate_left
      ·
       intro wS hSw
       go_simp
       all_goals first | with_reducible rfl | rw [if_neg (by omega)]
      simp only [Act.put, List.setIfInBounds_toArray, List.set]
      refine wpAnyL_ready (rs := [17]) (by kernel_rfl) (by simp) ?_
      refine AllReadyL.cons (o := _) (by (simp only [List.getElem?_toArray]; rfl)) (fun K hK => ?_) AllReadyL.nil
      go_simp
      obtain ⟨W_5, hw_, sw_, hv_, kw_⟩ := blocks1 W_4 (.cells #[.int .i64 0, .int .i64 0, .bool false, .int .i64 0, .slice none 0 0, .slice none 0 0, .slice none 0 0] 78)
      rw [← hw_]
      clear hw_
      have hgl_ : W_4.heap.size < W_5.heap.size := by omega
      have hg0_ : W.heap.size ≤ W_4.heap.size := Nat.le_trans hBW hS.2.size
      have hgX := Lib.hid (show BlkIs W_4.heap.size #[.int .i64 0, .int .i64 0, .bool false, .int .i64 0, .slice none 0 0, .slice none 0 0, .slice none 0 0] 78 W_5 from hv_)
      clear hv_ sw_
      have hRK : Below W.heap.size W W_5 := hS.2.trans (kw_.mono (Nat.le_trans hBW hS.2.size))
      clear hS
      have hS := KeptB.of hRK
      clear hRK
      replace HTK := Lib.hid (HTK.out.below kw_)
      replace HDN := Lib.hid (HDN.out.below kw_)
      clear kw_
      refine hK.out _ _ (fun _ => hS) ?_
      clear hK K
      try simp only [Act.put, List.setIfInBounds_toArray, List.set]
      refine wpAnyL_ready (rs := [18]) (by kernel_rfl) (by simp) ?_
      refine AllReadyL.cons (o := _) (by (simp only [List.getElem?_toArray]; rfl)) (fun K hK => ?_) AllReadyL.nil
      have zq_ := hgX.out
      unfold BlkIs at zq_
      have cq_ := cell_of_block zq_
      have fq_ := unfrozen_of_block zq_
      have lq_ := lt_of_block zq_
      go_simp
      obtain ⟨Q1, hV_, sV_, x9, oV_, kV_⟩ := stored7 W_5 (W_4.heap.size) _ _ _ _ _ _ _ (.int .i64 r.me) (.int .i64 r.view) (.bool r.live) (.int .i64 r.nx) (.slice a1 r.tk.length c1) (.slice none 0 0) (.slice a2 r.dn.length c2) zq_
      rw [← hV_]
      clear hV_
      have KQ := Lib.hid (hS.2.trans (kV_.mono hg0_))
      replace hS := KeptB.of KQ.out
      clear zq_ cq_ fq_ lq_ kV_ oV_ sV_ hgX
      refine hK.out _ _ (fun _ => hS) ?_
      clear hK K
      try simp only [Act.put, List.setIfInBounds_toArray, List.set]
      refine wpAnyL_done (by kernel_rfl) ?_ _
      clear hS
      clear cx fx lx
      go_wp2_with fail
      go_meet
      exact ⟨W_4.heap.size, a1, a2, c1, c2, rfl, hg0_, x9, KQ.out⟩
     refine AllReadyL.cons (o := _) (by (simp only [List.getElem?_toArray]; rfl)) (fun K hK => ?_) ?_
     ·
      skip
      go_simp
      obtain ⟨W_4, hw_, sw_, hv_, kw_⟩ := blocks1 W_3 (.cells #[.int .i64 0, .int .i64 0, .bool false, .int .i64 0, .slice none 0 0, .slice none 0 0, .slice none 0 0] 78)
      rw [← hw_]
      clear hw_
      have hgl_ : W_3.heap.size < W_4.heap.size := by omega
      have hg0_ : W.heap.size ≤ W_3.heap.size := Nat.le_trans hBW hS.2.size
      have hgX := Lib.hid (show BlkIs W_3.heap.size #[.int .i64 0, .int .i64 0, .bool false, .int .i64 0, .slice none 0 0, .slice none 0 0, .slice none 0 0] 78 W_4 from hv_)
      clear hv_ sw_
      have hRK : Below W.heap.size W W_4 := hS.2.trans (kw_.mono (Nat.le_trans hBW hS.2.size))
      clear hS
      have hS := KeptB.of hRK
      clear hRK
      replace HTK := Lib.hid (HTK.out.below kw_)
      replace HDN := Lib.hid (HDN.out.below kw_)
      clear kw_
      refine hK.out _ _ (fun _ => hS) ?_
      clear hK K
      try simp only [Act.put, List.setIfInBounds_toArray, List.set]
      refine wpAnyL_ready (rs := [15]) (by kernel_rfl) (by simp) ?_
      refine AllReadyL.cons (o := _) (by (simp only [List.getElem?_toArray]; rfl)) (fun K hK => ?_) AllReadyL.nil
      refine step_append_newM W_4.heap.size (by rfl) (.tmp 17) (.tmp 19) (by rfl) elmCl (by rfl) (by rfl) (fun z _ => cl_one z) (HDN.out) (by rfl) (by simp only [maxLen]; omega) (by omega) (Nat.le_refl _) ?_
      intro a2 c2 W_5 q_
      have hq_ : W.heap.size ≤ W_4.heap.size := Nat.le_trans hBW hS.2.size
      have kw_ := q_.below
      have hRK : Below W.heap.size W W_5 := hS.2.trans (kw_.mono (Nat.le_trans hBW hS.2.size))
      clear hS
      have hS := KeptB.of hRK
      clear hRK
      replace HTK := Lib.hid (HTK.out.below kw_)
      replace HDN := Lib.hid (HDN.out.below kw_)
      replace hgX := Lib.hid (hgX.out.below kw_)
      clear kw_
      clear q_ hq_
      refine hK.out _ _ (fun _ => hS) ?_
      clear hK K
      try simp only [Act.put, List.setIfInBounds_toArray, List.set]
      refine wpAnyL_take (i := 16) (oi := _) (v := ?_) (by (simp only [List.getElem?_toArray]; rfl)) (by kernel_rfl) (by kernel_rfl) (by kernel_rfl) (by kernel_rfl) (by exact fun _ _ _ h => h) (Or.inl ⟨by rfl, ?_⟩) (by assumption) ?_
      rotate_left
      ·
       intro wS hSw
       go_simp
       all_goals first | with_reducible rfl | rw [if_neg (by omega)]
      simp only [Act.put, List.setIfInBounds_toArray, List.set]
      refine wpAnyL_ready (rs := [18]) (by kernel_rfl) (by simp) ?_
      refine AllReadyL.cons (o := _) (by (simp only [List.getElem?_toArray]; rfl)) (fun K hK => ?_) AllReadyL.nil
      have zq_ := hgX.out
      unfold BlkIs at zq_
      have cq_ := cell_of_block zq_
      have fq_ := unfrozen_of_block zq_
      have lq_ := lt_of_block zq_
      go_simp
      obtain ⟨Q1, hV_, sV_, x9, oV_, kV_⟩ := stored7 W_5 (W_3.heap.size) _ _ _ _ _ _ _ (.int .i64 r.me) (.int .i64 r.view) (.bool r.live) (.int .i64 r.nx) (.slice a1 r.tk.length c1) (.slice none 0 0) (.slice a2 r.dn.length c2) zq_
      rw [← hV_]
      clear hV_
      have KQ := Lib.hid (hS.2.trans (kV_.mono hg0_))
      replace hS := KeptB.of KQ.out
      clear zq_ cq_ fq_ lq_ kV_ oV_ sV_ hgX
      refine hK.out _ _ (fun _ => hS) ?_
      clear hK K
      try simp only [Act.put, List.setIfInBounds_toArray, List.set]
      refine wpAnyL_done (by kernel_rfl) ?_ _
      clear hS
      clear cx fx lx
      go_wp2_with fail
      go_meet
      exact ⟨W_3.heap.size, a1, a2, c1, c2, rfl, hg0_, x9, KQ.out⟩
     exact AllReadyL.nil
    refine AllReadyL.cons (o := _) (by (simp only [List.getElem?_toArray]; rfl)) (fun K hK => ?_) ?_
    ·
     skip
     go_simp
     obtain ⟨W_3, hw_, sw_, hv_, kw_⟩ := blocks1 W_2 (.cells #[.int .i64 0, .int .i64 0, .bool false, .int .i64 0, .slice none 0 0, .slice none 0 0, .slice none 0 0] 78)
     rw [← hw_]
     clear hw_
     have hgl_ : W_2.heap.size < W_3.heap.size := by omega
     have hg0_ : W.heap.size ≤ W_2.heap.size := Nat.le_trans hBW hS.2.size
     have hgX := Lib.hid (show BlkIs W_2.heap.size #[.int .i64 0, .int .i64 0, .bool false, .int .i64 0, .slice none 0 0, .slice none 0 0, .slice none 0 0] 78 W_3 from hv_)
     clear hv_ sw_
     have hRK : Below W.heap.size W W_3 := hS.2.trans (kw_.mono (Nat.le_trans hBW hS.2.size))
     clear hS
     have hS := KeptB.of hRK
     clear hRK
     replace HTK := Lib.hid (HTK.out.below kw_)
     replace HDN := Lib.hid (HDN.out.below kw_)
     clear kw_
     refine hK.out _ _ (fun _ => hS) ?_
     clear hK K
     try simp only [Act.put, List.setIfInBounds_toArray, List.set]
     refine wpAnyL_ready (rs := [12]) (by kernel_rfl) (by simp) ?_
     refine AllReadyL.cons (o := _) (by (simp only [List.getElem?_toArray]; rfl)) (fun K hK => ?_) AllReadyL.nil
     refine step_build0M (by rfl) (by rfl) elmCl ?_
     obtain ⟨W_4, hw_, kw_⟩ : ∃ V, V = W_3.alloc (.cells #[] 62) ∧ Below W_3.heap.size W_3 V := ⟨_, rfl, (Below.refl _ _).alloc (Nat.le_refl _) _⟩
     rw [← hw_]
     clear hw_
     have hRK : Below W.heap.size W W_4 := hS.2.trans (kw_.mono (Nat.le_trans hBW hS.2.size))
     clear hS
     have hS := KeptB.of hRK
     clear hRK
     replace HTK := Lib.hid (HTK.out.below kw_)
     replace HDN := Lib.hid (HDN.out.below kw_)
     replace hgX := Lib.hid (hgX.out.below kw_)
     clear kw_
     refine hK.out _ _ (fun _ => hS) ?_
     clear hK K
     try simp only [Act.put, List.setIfInBounds_toArray, List.set]
     refine wpAnyL_ready (rs := [15]) (by kernel_rfl) (by simp) ?_
     refine AllReadyL.cons (o := _) (by (simp only [List.getElem?_toArray]; rfl)) (fun K hK => ?_) AllReadyL.nil
     refine step_append_newM W_4.heap.size (by rfl) (.tmp 17) (.tmp 19) (by rfl) elmCl (by rfl) (by rfl) (fun z _ => cl_one z) (HDN.out) (by rfl) (by simp only [maxLen]; omega) (by omega) (Nat.le_refl _) ?_
     intro a2 c2 W_5 q_
     have hq_ : W.heap.size ≤ W_4.heap.size := Nat.le_trans hBW hS.2.size
     have kw_ := q_.below
     have hRK : Below W.heap.size W W_5 := hS.2.trans (kw_.mono (Nat.le_trans hBW hS.2.size))
     clear hS
     have hS := KeptB.of hRK
     clear hRK
     replace HTK := Lib.hid (HTK.out.below kw_)
     replace HDN := Lib.hid (HDN.out.below kw_)
     replace hgX := Lib.hid (hgX.out.below kw_)
     clear kw_
     clear q_ hq_
     refine hK.out _ _ (fun _ => hS) ?_
     clear hK K
     try simp only [Act.put, List.setIfInBounds_toArray, List.set]
     refine wpAnyL_take (i := 16) (oi := _) (v := ?_) (by (simp only [List.getElem?_toArray]; rfl)) (by kernel_rfl) (by kernel_rfl) (by kernel_rfl) (by kernel_rfl) (by exact fun _ _ _ h => h) (Or.inl ⟨by rfl, ?_⟩) (by assumption) ?_
     rotate_left
     ·
      intro wS hSw
      go_simp
      all_goals first | with_reducible rfl | rw [if_neg (by omega)]
     simp only [Act.put, List.setIfInBounds_toArray, List.set]
     refine wpAnyL_ready (rs := [18]) (by kernel_rfl) (by simp) ?_
     refine AllReadyL.cons (o := _) (by (simp only [List.getElem?_toArray]; rfl)) (fun K hK => ?_) AllReadyL.nil
     have zq_ := hgX.out
     unfold BlkIs at zq_
     have cq_ := cell_of_block zq_
     have fq_ := unfrozen_of_block zq_
     have lq_ := lt_of_block zq_
     go_simp
     obtain ⟨Q1, hV_, sV_, x9, oV_, kV_⟩ := stored7 W_5 (W_2.heap.size) _ _ _ _ _ _ _ (.int .i64 r.me) (.int .i64 r.view) (.bool r.live) (.int .i64 r.nx) (.slice a1 r.tk.length c1) (.slice none 0 0) (.slice a2 r.dn.length c2) zq_
     rw [← hV_]
     clear hV_
     have KQ := Lib.hid (hS.2.trans (kV_.mono hg0_))
     replace hS := KeptB.of KQ.out
     clear zq_ cq_ fq_ lq_ kV_ oV_ sV_ hgX
     refine hK.out _ _ (fun _ => hS) ?_
     clear hK K
     try simp only [Act.put, List.setIfInBounds_toArray, List.set]
     refine wpAnyL_done (by kernel_rfl) ?_ _
     clear hS
     clear cx fx lx
     go_wp2_with fail
     go_meet
     exact ⟨W_2.heap.size, a1, a2, c1, c2, rfl, hg0_, x9, KQ.out⟩
    exact AllReadyL.nil
   refine AllReadyL.cons (o := _) (by (simp only [List.getElem?_toArray]; rfl)) (fun K hK => ?_) ?_
   ·
    skip
    refine step_build0M (by rfl) (by rfl) elmCl ?_
    obtain ⟨W_2, hw_, kw_⟩ : ∃ V, V = W_1.alloc (.cells #[] 62) ∧ Below W_1.heap.size W_1 V := ⟨_, rfl, (Below.refl _ _).alloc (Nat.le_refl _) _⟩
    rw [← hw_]
    clear hw_
    have hRK : Below W.heap.size W W_2 := hS.2.trans (kw_.mono (Nat.le_trans hBW hS.2.size))
    clear hS
    have hS := KeptB.of hRK
    clear hRK
    replace HTK := Lib.hid (HTK.out.below kw_)
    replace HDN := Lib.hid (HDN.out.below kw_)
    clear kw_
    refine hK.out _ _ (fun _ => hS) ?_
    clear hK K
    try simp only [Act.put, List.setIfInBounds_toArray, List.set]
    refine wpAnyL_ready (rs := [11, 17]) (by kernel_rfl) (by simp) ?_
    refine AllReadyL.cons (o := _) (by (simp only [List.getElem?_toArray]; rfl)) (fun K hK => ?_) ?_
    ·
     skip
     refine step_append_newM W_2.heap.size (by rfl) (.tmp 13) (.tmp 15) (by rfl) elmCl (by rfl) (by rfl) (fun z _ => cl_one z) (HTK.out) (by rfl) (by simp only [maxLen]; omega) (by omega) (Nat.le_refl _) ?_
     intro a1 c1 W_3 q_
     have hq_ : W.heap.size ≤ W_2.heap.size := Nat.le_trans hBW hS.2.size
     have kw_ := q_.below
     have hRK : Below W.heap.size W W_3 := hS.2.trans (kw_.mono (Nat.le_trans hBW hS.2.size))
     clear hS
     have hS := KeptB.of hRK
     clear hRK
     replace HTK := Lib.hid (HTK.out.below kw_)
     replace HDN := Lib.hid (HDN.out.below kw_)
     clear kw_
     clear q_ hq_
     refine hK.out _ _ (fun _ => hS) ?_
     clear hK K
     try simp only [Act.put, List.setIfInBounds_toArray, List.set]
     refine wpAnyL_ready (rs := [15, 17]) (by kernel_rfl) (by simp) ?_
     refine AllReadyL.cons (o := _) (by (simp only [List.getElem?_toArray]; rfl)) (fun K hK => ?_) ?_
     ·
      skip
      refine step_append_newM W_3.heap.size (by rfl) (.tmp 17) (.tmp 19) (by rfl) elmCl (by rfl) (by rfl) (fun z _ => cl_one z) (HDN.out) (by rfl) (by simp only [maxLen]; omega) (by omega) (Nat.le_refl _) ?_
      intro a2 c2 W_4 q_
      have hq_ : W.heap.size ≤ W_3.heap.size := Nat.le_trans hBW hS.2.size
      have kw_ := q_.below
      have hRK : Below W.heap.size W W_4 := hS.2.trans (kw_.mono (Nat.le_trans hBW hS.2.size))
      clear hS
      have hS := KeptB.of hRK
      clear hRK
      replace HTK := Lib.hid (HTK.out.below kw_)
      replace HDN := Lib.hid (HDN.out.below kw_)
      clear kw_
      clear q_ hq_
      refine hK.out _ _ (fun _ => hS) ?_
      clear hK K
      try simp only [Act.put, List.setIfInBounds_toArray, List.set]
      refine wpAnyL_take (i := 16) (oi := _) (v := ?_) (by (simp only [List.getElem?_toArray]; rfl)) (by kernel_rfl) (by kernel_rfl) (by kernel_rfl) (by kernel_rfl) (by exact fun _ _ _ h => h) (Or.inl ⟨by rfl, ?_⟩) (by assumption) ?_
      rotate_left
      ·
       intro wS hSw
       go_simp
       all_goals first | with_reducible rfl | rw [if_neg (by omega)]
      simp only [Act.put, List.setIfInBounds_toArray, List.set]
      refine wpAnyL_ready (rs := [17]) (by kernel_rfl) (by simp) ?_
      refine AllReadyL.cons (o := _) (by (simp only [List.getElem?_toArray]; rfl)) (fun K hK => ?_) AllReadyL.nil
      go_simp
      obtain ⟨W_5, hw_, sw_, hv_, kw_⟩ := blocks1 W_4 (.cells #[.int .i64 0, .int .i64 0, .bool false, .int .i64 0, .slice none 0 0, .slice none 0 0, .slice none 0 0] 78)
      rw [← hw_]
      clear hw_
      have hgl_ : W_4.heap.size < W_5.heap.size := by omega
      have hg0_ : W.heap.size ≤ W_4.heap.size := Nat.le_trans hBW hS.2.size
      have hgX := Lib.hid (show BlkIs W_4.heap.size #[.int .i64 0, .int .i64 0, .bool false, .int .i64 0, .slice none 0 0, .slice none 0 0, .slice none 0 0] 78 W_5 from hv_)
      clear hv_ sw_
      have hRK : Below W.heap.size W W_5 := hS.2.trans (kw_.mono (Nat.le_trans hBW hS.2.size))
      clear hS
      have hS := KeptB.of hRK
      clear hRK
      replace HTK := Lib.hid (HTK.out.below kw_)
      replace HDN := Lib.hid (HDN.out.below kw_)
      clear kw_
      refine hK.out _ _ (fun _ => hS) ?_
      clear hK K
      try simp only [Act.put, List.setIfInBounds_toArray, List.set]
      refine wpAnyL_ready (rs := [18]) (by kernel_rfl) (by simp) ?_
      refine AllReadyL.cons (o := _) (by (simp only [List.getElem?_toArray]; rfl)) (fun K hK => ?_) AllReadyL.nil
      have zq_ := hgX.out
      unfold BlkIs at zq_
      have cq_ := cell_of_block zq_
      have fq_ := unfrozen_of_block zq_
      have lq_ := lt_of_block zq_
      go_simp
      obtain ⟨Q1, hV_, sV_, x9, oV_, kV_⟩ := stored7 W_5 (W_4.heap.size) _ _ _ _ _ _ _ (.int .i64 r.me) (.int .i64 r.view) (.bool r.live) (.int .i64 r.nx) (.slice a1 r.tk.length c1) (.slice none 0 0) (.slice a2 r.dn.length c2) zq_
      rw [← hV_]
      clear hV_
      have KQ := Lib.hid (hS.2.trans (kV_.mono hg0_))
      replace hS := KeptB.of KQ.out
      clear zq_ cq_ fq_ lq_ kV_ oV_ sV_ hgX
      refine hK.out _ _ (fun _ => hS) ?_
      clear hK K
      try simp only [Act.put, List.setIfInBounds_toArray, List.set]
      refine wpAnyL_done (by kernel_rfl) ?_ _
      clear hS
      clear cx fx lx
      go_wp2_with fail
      go_meet
      exact ⟨W_4.heap.size, a1, a2, c1, c2, rfl, hg0_, x9, KQ.out⟩
     refine AllReadyL.cons (o := _) (by (simp only [List.getElem?_toArray]; rfl)) (fun K hK => ?_) ?_
     ·
      skip
      go_simp
      obtain ⟨W_4, hw_, sw_, hv_, kw_⟩ := blocks1 W_3 (.cells #[.int .i64 0, .int .i64 0, .bool false, .int .i64 0, .slice none 0 0, .slice none 0 0, .slice none 0 0] 78)
      rw [← hw_]
      clear hw_
      have hgl_ : W_3.heap.size < W_4.heap.size := by omega
      have hg0_ : W.heap.size ≤ W_3.heap.size := Nat.le_trans hBW hS.2.size
      have hgX := Lib.hid (show BlkIs W_3.heap.size #[.int .i64 0, .int .i64 0, .bool false, .int .i64 0, .slice none 0 0, .slice none 0 0, .slice none 0 0] 78 W_4 from hv_)
      clear hv_ sw_
      have hRK : Below W.heap.size W W_4 := hS.2.trans (kw_.mono (Nat.le_trans hBW hS.2.size))
      clear hS
      have hS := KeptB.of hRK
      clear hRK
      replace HTK := Lib.hid (HTK.out.below kw_)
      replace HDN := Lib.hid (HDN.out.below kw_)
      clear kw_
      refine hK.out _ _ (fun _ => hS) ?_
      clear hK K
      try simp only [Act.put, List.setIfInBounds_toArray, List.set]
      refine wpAnyL_ready (rs := [15]) (by kernel_rfl) (by simp) ?_
      refine AllReadyL.cons (o := _) (by (simp only [List.getElem?_toArray]; rfl)) (fun K hK => ?_) AllReadyL.nil
      refine step_append_newM W_4.heap.size (by rfl) (.tmp 17) (.tmp 19) (by rfl) elmCl (by rfl) (by rfl) (fun z _ => cl_one z) (HDN.out) (by rfl) (by simp only [maxLen]; omega) (by omega) (Nat.le_refl _) ?_
      intro a2 c2 W_5 q_
      have hq_ : W.heap.size ≤ W_4.heap.size := Nat.le_trans hBW hS.2.size
      have kw_ := q_.below
      have hRK : Below W.heap.size W W_5 := hS.2.trans (kw_.mono (Nat.le_trans hBW hS.2.size))
      clear hS
      have hS := KeptB.of hRK
      clear hRK
      replace HTK := Lib.hid (HTK.out.below kw_)
      replace HDN := Lib.hid (HDN.out.below kw_)
      replace hgX := Lib.hid (hgX.out.below kw_)
      clear kw_
      clear q_ hq_
      refine hK.out _ _ (fun _ => hS) ?_
      clear hK K
      try simp only [Act.put, List.setIfInBounds_toArray, List.set]
      refine wpAnyL_take (i := 16) (oi := _) (v := ?_) (by (simp only [List.getElem?_toArray]; rfl)) (by kernel_rfl) (by kernel_rfl) (by kernel_rfl) (by kernel_rfl) (by exact fun _ _ _ h => h) (Or.inl ⟨by rfl, ?_⟩) (by assumption) ?_
      rotate_left
      ·
       intro wS hSw
       go_simp
       all_goals first | with_reducible rfl | rw [if_neg (by omega)]
      simp only [Act.put, List.setIfInBounds_toArray, List.set]
      refine wpAnyL_ready (rs := [18]) (by kernel_rfl) (by simp) ?_
      refine AllReadyL.cons (o := _) (by (simp only [List.getElem?_toArray]; rfl)) (fun K hK => ?_) AllReadyL.nil
      have zq_ := hgX.out
      unfold BlkIs at zq_
      have cq_ := cell_of_block zq_
      have fq_ := unfrozen_of_block zq_
      have lq_ := lt_of_block zq_
      go_simp
      obtain ⟨Q1, hV_, sV_, x9, oV_, kV_⟩ := stored7 W_5 (W_3.heap.size) _ _ _ _ _ _ _ (.int .i64 r.me) (.int .i64 r.view) (.bool r.live) (.int .i64 r.nx) (.slice a1 r.tk.length c1) (.slice none 0 0) (.slice a2 r.dn.length c2) zq_
      rw [← hV_]
      clear hV_
      have KQ := Lib.hid (hS.2.trans (kV_.mono hg0_))
      replace hS := KeptB.of KQ.out
      clear zq_ cq_ fq_ lq_ kV_ oV_ sV_ hgX
      refine hK.out _ _ (fun _ => hS) ?_
      clear hK K
      try simp only [Act.put, List.setIfInBounds_toArray, List.set]
      refine wpAnyL_done (by kernel_rfl) ?_ _
      clear hS
      clear cx fx lx
      go_wp2_with fail
      go_meet
      exact ⟨W_3.heap.size, a1, a2, c1, c2, rfl, hg0_, x9, KQ.out⟩
     exact AllReadyL.nil
    refine AllReadyL.cons (o := _) (by (simp only [List.getElem?_toArray]; rfl)) (fun K hK => ?_) ?_
    ·
     skip
     go_simp
     obtain ⟨W_3, hw_, sw_, hv_, kw_⟩ := blocks1 W_2 (.cells #[.int .i64 0, .int .i64 0, .bool false, .int .i64 0, .slice none 0 0, .slice none 0 0, .slice none 0 0] 78)
     rw [← hw_]
     clear hw_
     have hgl_ : W_2.heap.size < W_3.heap.size := by omega
     have hg0_ : W.heap.size ≤ W_2.heap.size := Nat.le_trans hBW hS.2.size
     have hgX := Lib.hid (show BlkIs W_2.heap.size #[.int .i64 0, .int .i64 0, .bool false, .int .i64 0, .slice none 0 0, .slice none 0 0, .slice none 0 0] 78 W_3 from hv_)
     clear hv_ sw_
     have hRK : Below W.heap.size W W_3 := hS.2.trans (kw_.mono (Nat.le_trans hBW hS.2.size))
     clear hS
     have hS := KeptB.of hRK
     clear hRK
     replace HTK := Lib.hid (HTK.out.below kw_)
     replace HDN := Lib.hid (HDN.out.below kw_)
     clear kw_
     refine hK.out _ _ (fun _ => hS) ?_
     clear hK K
     try simp only [Act.put, List.setIfInBounds_toArray, List.set]
     refine wpAnyL_ready (rs := [11]) (by kernel_rfl) (by simp) ?_
     refine AllReadyL.cons (o := _) (by (simp only [List.getElem?_toArray]; rfl)) (fun K hK => ?_) AllReadyL.nil
     refine step_append_newM W_3.heap.size (by rfl) (.tmp 13) (.tmp 15) (by rfl) elmCl (by rfl) (by rfl) (fun z _ => cl_one z) (HTK.out) (by rfl) (by simp only [maxLen]; omega) (by omega) (Nat.le_refl _) ?_
     intro a1 c1 W_4 q_
     have hq_ : W.heap.size ≤ W_3.heap.size := Nat.le_trans hBW hS.2.size
     have kw_ := q_.below
     have hRK : Below W.heap.size W W_4 := hS.2.trans (kw_.mono (Nat.le_trans hBW hS.2.size))
     clear hS
     have hS := KeptB.of hRK
     clear hRK
     replace HTK := Lib.hid (HTK.out.below kw_)
     replace HDN := Lib.hid (HDN.out.below kw_)
     replace hgX := Lib.hid (hgX.out.below kw_)
     clear kw_
     clear q_ hq_
     refine hK.out _ _ (fun _ => hS) ?_
     clear hK K
     try simp only [Act.put, List.setIfInBounds_toArray, List.set]
     refine wpAnyL_ready (rs := [15]) (by kernel_rfl) (by simp) ?_
     refine AllReadyL.cons (o := _) (by (simp only [List.getElem?_toArray]; rfl)) (fun K hK => ?_) AllReadyL.nil
     refine step_append_newM W_4.heap.size (by rfl) (.tmp 17) (.tmp 19) (by rfl) elmCl (by rfl) (by rfl) (fun z _ => cl_one z) (HDN.out) (by rfl) (by simp only [maxLen]; omega) (by omega) (Nat.le_refl _) ?_
     intro a2 c2 W_5 q_
     have hq_ : W.heap.size ≤ W_4.heap.size := Nat.le_trans hBW hS.2.size
     have kw_ := q_.below
     have hRK : Below W.heap.size W W_5 := hS.2.trans (kw_.mono (Nat.le_trans hBW hS.2.size))
     clear hS
     have hS := KeptB.of hRK
     clear hRK
     replace HTK := Lib.hid (HTK.out.below kw_)
     replace HDN := Lib.hid (HDN.out.below kw_)
     replace hgX := Lib.hid (hgX.out.below kw_)
     clear kw_
     clear q_ hq_
     refine hK.out _ _ (fun _ => hS) ?_
     clear hK K
     try simp only [Act.put, List.setIfInBounds_toArray, List.set]
     refine wpAnyL_take (i := 16) (oi := _) (v := ?_) (by (simp only [List.getElem?_toArray]; rfl)) (by kernel_rfl) (by kernel_rfl) (by kernel_rfl) (by kernel_rfl) (by exact fun _ _ _ h => h) (Or.inl ⟨by rfl, ?_⟩) (by assumption) ?_
     rotate_left
     ·
      intro wS hSw
      go_simp
      all_goals first | with_reducible rfl | rw [if_neg (by omega)]
     simp only [Act.put, List.setIfInBounds_toArray, List.set]
     refine wpAnyL_ready (rs := [18]) (by kernel_rfl) (by simp) ?_
     refine AllReadyL.cons (o := _) (by (simp only [List.getElem?_toArray]; rfl)) (fun K hK => ?_) AllReadyL.nil
     have zq_ := hgX.out
     unfold BlkIs at zq_
     have cq_ := cell_of_block zq_
     have fq_ := unfrozen_of_block zq_
     have lq_ := lt_of_block zq_
     go_simp
     obtain ⟨Q1, hV_, sV_, x9, oV_, kV_⟩ := stored7 W_5 (W_2.heap.size) _ _ _ _ _ _ _ (.int .i64 r.me) (.int .i64 r.view) (.bool r.live) (.int .i64 r.nx) (.slice a1 r.tk.length c1) (.slice none 0 0) (.slice a2 r.dn.length c2) zq_
     rw [← hV_]
     clear hV_
     have KQ := Lib.hid (hS.2.trans (kV_.mono hg0_))
     replace hS := KeptB.of KQ.out
     clear zq_ cq_ fq_ lq_ kV_ oV_ sV_ hgX
     refine hK.out _ _ (fun _ => hS) ?_
     clear hK K
     try simp only [Act.put, List.setIfInBounds_toArray, List.set]
     refine wpAnyL_done (by kernel_rfl) ?_ _
     clear hS
     clear cx fx lx
     go_wp2_with fail
     go_meet
     exact ⟨W_2.heap.size, a1, a2, c1, c2, rfl, hg0_, x9, KQ.out⟩
    exact AllReadyL.nil
   refine AllReadyL.cons (o := _) (by (simp only [List.getElem?_toArray]; rfl)) (fun K hK => ?_) ?_
   ·
    skip
    go_simp
    obtain ⟨W_2, hw_, sw_, hv_, kw_⟩ := blocks1 W_1 (.cells #[.int .i64 0, .int .i64 0, .bool false, .int .i64 0, .slice none 0 0, .slice none 0 0, .slice none 0 0] 78)
    rw [← hw_]
    clear hw_
    have hgl_ : W_1.heap.size < W_2.heap.size := by omega
    have hg0_ : W.heap.size ≤ W_1.heap.size := Nat.le_trans hBW hS.2.size
    have hgX := Lib.hid (show BlkIs W_1.heap.size #[.int .i64 0, .int .i64 0, .bool false, .int .i64 0, .slice none 0 0, .slice none 0 0, .slice none 0 0] 78 W_2 from hv_)
    clear hv_ sw_
    have hRK : Below W.heap.size W W_2 := hS.2.trans (kw_.mono (Nat.le_trans hBW hS.2.size))
    clear hS
    have hS := KeptB.of hRK
    clear hRK
    replace HTK := Lib.hid (HTK.out.below kw_)
    replace HDN := Lib.hid (HDN.out.below kw_)
    clear kw_
    refine hK.out _ _ (fun _ => hS) ?_
    clear hK K
    try simp only [Act.put, List.setIfInBounds_toArray, List.set]
    refine wpAnyL_ready (rs := [11, 12]) (by kernel_rfl) (by simp) ?_
    refine AllReadyL.cons (o := _) (by (simp only [List.getElem?_toArray]; rfl)) (fun K hK => ?_) ?_
    ·
     skip
     refine step_append_newM W_2.heap.size (by rfl) (.tmp 13) (.tmp 15) (by rfl) elmCl (by rfl) (by rfl) (fun z _ => cl_one z) (HTK.out) (by rfl) (by simp only [maxLen]; omega) (by omega) (Nat.le_refl _) ?_
     intro a1 c1 W_3 q_
     have hq_ : W.heap.size ≤ W_2.heap.size := Nat.le_trans hBW hS.2.size
     have kw_ := q_.below
     have hRK : Below W.heap.size W W_3 := hS.2.trans (kw_.mono (Nat.le_trans hBW hS.2.size))
     clear hS
     have hS := KeptB.of hRK
     clear hRK
     replace HTK := Lib.hid (HTK.out.below kw_)
     replace HDN := Lib.hid (HDN.out.below kw_)
     replace hgX := Lib.hid (hgX.out.below kw_)
     clear kw_
     clear q_ hq_
     refine hK.out _ _ (fun _ => hS) ?_
     clear hK K
     try simp only [Act.put, List.setIfInBounds_toArray, List.set]
     refine wpAnyL_ready (rs := [12]) (by kernel_rfl) (by simp) ?_
     refine AllReadyL.cons (o := _) (by (simp only [List.getElem?_toArray]; rfl)) (fun K hK => ?_) AllReadyL.nil
     refine step_build0M (by rfl) (by rfl) elmCl ?_
     obtain ⟨W_4, hw_, kw_⟩ : ∃ V, V = W_3.alloc (.cells #[] 62) ∧ Below W_3.heap.size W_3 V := ⟨_, rfl, (Below.refl _ _).alloc (Nat.le_refl _) _⟩
     rw [← hw_]
     clear hw_
     have hRK : Below W.heap.size W W_4 := hS.2.trans (kw_.mono (Nat.le_trans hBW hS.2.size))
     clear hS
     have hS := KeptB.of hRK
     clear hRK
     replace HTK := Lib.hid (HTK.out.below kw_)
     replace HDN := Lib.hid (HDN.out.below kw_)
     replace hgX := Lib.hid (hgX.out.below kw_)
     clear kw_
     refine hK.out _ _ (fun _ => hS) ?_
     clear hK K
     try simp only [Act.put, List.setIfInBounds_toArray, List.set]
     refine wpAnyL_ready (rs := [15]) (by kernel_rfl) (by simp) ?_
     refine AllReadyL.cons (o := _) (by (simp only [List.getElem?_toArray]; rfl)) (fun K hK => ?_) AllReadyL.nil
     refine step_append_newM W_4.heap.size (by rfl) (.tmp 17) (.tmp 19) (by rfl) elmCl (by rfl) (by rfl) (fun z _ => cl_one z) (HDN.out) (by rfl) (by simp only [maxLen]; omega) (by omega) (Nat.le_refl _) ?_
     intro a2 c2 W_5 q_
     have hq_ : W.heap.size ≤ W_4.heap.size := Nat.le_trans hBW hS.2.size
     have kw_ := q_.below
     have hRK : Below W.heap.size W W_5 := hS.2.trans (kw_.mono (Nat.le_trans hBW hS.2.size))
     clear hS
     have hS := KeptB.of hRK
     clear hRK
     replace HTK := Lib.hid (HTK.out.below kw_)
     replace HDN := Lib.hid (HDN.out.below kw_)
     replace hgX := Lib.hid (hgX.out.below kw_)
     clear kw_
     clear q_ hq_
     refine hK.out _ _ (fun _ => hS) ?_
     clear hK K
     try simp only [Act.put, List.setIfInBounds_toArray, List.set]
     refine wpAnyL_take (i := 16) (oi := _) (v := ?_) (by (simp only [List.getElem?_toArray]; rfl)) (by kernel_rfl) (by kernel_rfl) (by kernel_rfl) (by kernel_rfl) (by exact fun _ _ _ h => h) (Or.inl ⟨by rfl, ?_⟩) (by assumption) ?_
     rotate_left
     ·
      intro wS hSw
      go_simp
      all_goals first | with_reducible rfl | rw [if_neg (by omega)]
     simp only [Act.put, List.setIfInBounds_toArray, List.set]
     refine wpAnyL_ready (rs := [18]) (by kernel_rfl) (by simp) ?_
     refine AllReadyL.cons (o := _) (by (simp only [List.getElem?_toArray]; rfl)) (fun K hK => ?_) AllReadyL.nil
     have zq_ := hgX.out
     unfold BlkIs at zq_
     have cq_ := cell_of_block zq_
     have fq_ := unfrozen_of_block zq_
     have lq_ := lt_of_block zq_
     go_simp
     obtain ⟨Q1, hV_, sV_, x9, oV_, kV_⟩ := stored7 W_5 (W_1.heap.size) _ _ _ _ _ _ _ (.int .i64 r.me) (.int .i64 r.view) (.bool r.live) (.int .i64 r.nx) (.slice a1 r.tk.length c1) (.slice none 0 0) (.slice a2 r.dn.length c2) zq_
     rw [← hV_]
     clear hV_
     have KQ := Lib.hid (hS.2.trans (kV_.mono hg0_))
     replace hS := KeptB.of KQ.out
     clear zq_ cq_ fq_ lq_ kV_ oV_ sV_ hgX
     refine hK.out _ _ (fun _ => hS) ?_
     clear hK K
     try simp only [Act.put, List.setIfInBounds_toArray, List.set]
     refine wpAnyL_done (by kernel_rfl) ?_ _
     clear hS
     clear cx fx lx
     go_wp2_with fail
     go_meet
     exact ⟨W_1.heap.size, a1, a2, c1, c2, rfl, hg0_, x9, KQ.out⟩
    refine AllReadyL.cons (o := _) (by (simp only [List.getElem?_toArray]; rfl)) (fun K hK => ?_) ?_
    ·
     skip
     refine step_build0M (by rfl) (by rfl) elmCl ?_
     obtain ⟨W_3, hw_, kw_⟩ : ∃ V, V = W_2.alloc (.cells #[] 62) ∧ Below W_2.heap.size W_2 V := ⟨_, rfl, (Below.refl _ _).alloc (Nat.le_refl _) _⟩
     rw [← hw_]
     clear hw_
     have hRK : Below W.heap.size W W_3 := hS.2.trans (kw_.mono (Nat.le_trans hBW hS.2.size))
     clear hS
     have hS := KeptB.of hRK
     clear hRK
     replace HTK := Lib.hid (HTK.out.below kw_)
     replace HDN := Lib.hid (HDN.out.below kw_)
     replace hgX := Lib.hid (hgX.out.below kw_)
     clear kw_
     refine hK.out _ _ (fun _ => hS) ?_
     clear hK K
     try simp only [Act.put, List.setIfInBounds_toArray, List.set]
     refine wpAnyL_ready (rs := [11]) (by kernel_rfl) (by simp) ?_
     refine AllReadyL.cons (o := _) (by (simp only [List.getElem?_toArray]; rfl)) (fun K hK => ?_) AllReadyL.nil
     refine step_append_newM W_3.heap.size (by rfl) (.tmp 13) (.tmp 15) (by rfl) elmCl (by rfl) (by rfl) (fun z _ => cl_one z) (HTK.out) (by rfl) (by simp only [maxLen]; omega) (by omega) (Nat.le_refl _) ?_
     intro a1 c1 W_4 q_
     have hq_ : W.heap.size ≤ W_3.heap.size := Nat.le_trans hBW hS.2.size
     have kw_ := q_.below
     have hRK : Below W.heap.size W W_4 := hS.2.trans (kw_.mono (Nat.le_trans hBW hS.2.size))
     clear hS
     have hS := KeptB.of hRK
     clear hRK
     replace HTK := Lib.hid (HTK.out.below kw_)
     replace HDN := Lib.hid (HDN.out.below kw_)
     replace hgX := Lib.hid (hgX.out.below kw_)
     clear kw_
     clear q_ hq_
     refine hK.out _ _ (fun _ => hS) ?_
     clear hK K
     try simp only [Act.put, List.setIfInBounds_toArray, List.set]
     refine wpAnyL_ready (rs := [15]) (by kernel_rfl) (by simp) ?_
     refine AllReadyL.cons (o := _) (by (simp only [List.getElem?_toArray]; rfl)) (fun K hK => ?_) AllReadyL.nil
     refine step_append_newM W_4.heap.size (by rfl) (.tmp 17) (.tmp 19) (by rfl) elmCl (by rfl) (by rfl) (fun z _ => cl_one z) (HDN.out) (by rfl) (by simp only [maxLen]; omega) (by omega) (Nat.le_refl _) ?_
     intro a2 c2 W_5 q_
     have hq_ : W.heap.size ≤ W_4.heap.size := Nat.le_trans hBW hS.2.size
     have kw_ := q_.below
     have hRK : Below W.heap.size W W_5 := hS.2.trans (kw_.mono (Nat.le_trans hBW hS.2.size))
     clear hS
     have hS := KeptB.of hRK
     clear hRK
     replace HTK := Lib.hid (HTK.out.below kw_)
     replace HDN := Lib.hid (HDN.out.below kw_)
     replace hgX := Lib.hid (hgX.out.below kw_)
     clear kw_
     clear q_ hq_
     refine hK.out _ _ (fun _ => hS) ?_
     clear hK K
     try simp only [Act.put, List.setIfInBounds_toArray, List.set]
     refine wpAnyL_take (i := 16) (oi := _) (v := ?_) (by (simp only [List.getElem?_toArray]; rfl)) (by kernel_rfl) (by kernel_rfl) (by kernel_rfl) (by kernel_rfl) (by exact fun _ _ _ h => h) (Or.inl ⟨by rfl, ?_⟩) (by assumption) ?_
     rotate_left
     ·
      intro wS hSw
      go_simp
      all_goals first | with_reducible rfl | rw [if_neg (by omega)]
     simp only [Act.put, List.setIfInBounds_toArray, List.set]
     refine wpAnyL_ready (rs := [18]) (by kernel_rfl) (by simp) ?_
     refine AllReadyL.cons (o := _) (by (simp only [List.getElem?_toArray]; rfl)) (fun K hK => ?_) AllReadyL.nil
     have zq_ := hgX.out
     unfold BlkIs at zq_
     have cq_ := cell_of_block zq_
     have fq_ := unfrozen_of_block zq_
     have lq_ := lt_of_block zq_
     go_simp
     obtain ⟨Q1, hV_, sV_, x9, oV_, kV_⟩ := stored7 W_5 (W_1.heap.size) _ _ _ _ _ _ _ (.int .i64 r.me) (.int .i64 r.view) (.bool r.live) (.int .i64 r.nx) (.slice a1 r.tk.length c1) (.slice none 0 0) (.slice a2 r.dn.length c2) zq_
     rw [← hV_]
     clear hV_
     have KQ := Lib.hid (hS.2.trans (kV_.mono hg0_))
     replace hS := KeptB.of KQ.out
     clear zq_ cq_ fq_ lq_ kV_ oV_ sV_ hgX
     refine hK.out _ _ (fun _ => hS) ?_
     clear hK K
     try simp only [Act.put, List.setIfInBounds_toArray, List.set]
     refine wpAnyL_done (by kernel_rfl) ?_ _
     clear hS
     clear cx fx lx
     go_wp2_with fail
     go_meet
     exact ⟨W_1.heap.size, a1, a2, c1, c2, rfl, hg0_, x9, KQ.out⟩
    exact AllReadyL.nil
   exact AllReadyL.nil
  refine AllReadyL.cons (o := _) (by (simp only [List.getElem?_toArray]; rfl)) (fun K hK => ?_) ?_
  ·
   skip
   refine step_build0M (by rfl) (by rfl) elmCl ?_
   obtain ⟨W_1, hw_, kw_⟩ : ∃ V, V = W_0.alloc (.cells #[] 62) ∧ Below W_0.heap.size W_0 V := ⟨_, rfl, (Below.refl _ _).alloc (Nat.le_refl _) _⟩
   rw [← hw_]
   clear hw_
   have hRK : Below W.heap.size W W_1 := hS.2.trans (kw_.mono (Nat.le_trans hBW hS.2.size))
   clear hS
   have hS := KeptB.of hRK
   clear hRK
   replace HTK := Lib.hid (HTK.out.below kw_)
   replace HDN := Lib.hid (HDN.out.below kw_)
   clear kw_
   refine hK.out _ _ (fun _ => hS) ?_
   clear hK K
   try simp only [Act.put, List.setIfInBounds_toArray, List.set]
   refine wpAnyL_ready (rs := [8, 17]) (by kernel_rfl) (by simp) ?_
   refine AllReadyL.cons (o := _) (by (simp only [List.getElem?_toArray]; rfl)) (fun K hK => ?_) ?_
   ·
    skip
    refine step_build0M (by rfl) (by rfl) elmCl ?_
    obtain ⟨W_2, hw_, kw_⟩ : ∃ V, V = W_1.alloc (.cells #[] 62) ∧ Below W_1.heap.size W_1 V := ⟨_, rfl, (Below.refl _ _).alloc (Nat.le_refl _) _⟩
    rw [← hw_]
    clear hw_
    have hRK : Below W.heap.size W W_2 := hS.2.trans (kw_.mono (Nat.le_trans hBW hS.2.size))
    clear hS
    have hS := KeptB.of hRK
    clear hRK
    replace HTK := Lib.hid (HTK.out.below kw_)
    replace HDN := Lib.hid (HDN.out.below kw_)
    clear kw_
    refine hK.out _ _ (fun _ => hS) ?_
    clear hK K
    try simp only [Act.put, List.setIfInBounds_toArray, List.set]
    refine wpAnyL_ready (rs := [11, 17]) (by kernel_rfl) (by simp) ?_
    refine AllReadyL.cons (o := _) (by (simp only [List.getElem?_toArray]; rfl)) (fun K hK => ?_) ?_
    ·
     skip
     refine step_append_newM W_2.heap.size (by rfl) (.tmp 13) (.tmp 15) (by rfl) elmCl (by rfl) (by rfl) (fun z _ => cl_one z) (HTK.out) (by rfl) (by simp only [maxLen]; omega) (by omega) (Nat.le_refl _) ?_
     intro a1 c1 W_3 q_
     have hq_ : W.heap.size ≤ W_2.heap.size := Nat.le_trans hBW hS.2.size
     have kw_ := q_.below
     have hRK : Below W.heap.size W W_3 := hS.2.trans (kw_.mono (Nat.le_trans hBW hS.2.size))
     clear hS
     have hS := KeptB.of hRK
     clear hRK
     replace HTK := Lib.hid (HTK.out.below kw_)
     replace HDN := Lib.hid (HDN.out.below kw_)
     clear kw_
     clear q_ hq_
     refine hK.out _ _ (fun _ => hS) ?_
     clear hK K
     try simp only [Act.put, List.setIfInBounds_toArray, List.set]
     refine wpAnyL_ready (rs := [15, 17]) (by kernel_rfl) (by simp) ?_
     refine AllReadyL.cons (o := _) (by (simp only [List.getElem?_toArray]; rfl)) (fun K hK => ?_) ?_
     ·
      skip
      refine step_append_newM W_3.heap.size (by rfl) (.tmp 17) (.tmp 19) (by rfl) elmCl (by rfl) (by rfl) (fun z _ => cl_one z) (HDN.out) (by rfl) (by simp only [maxLen]; omega) (by omega) (Nat.le_refl _) ?_
      intro a2 c2 W_4 q_
      have hq_ : W.heap.size ≤ W_3.heap.size := Nat.le_trans hBW hS.2.size
      have kw_ := q_.below
      have hRK : Below W.heap.size W W_4 := hS.2.trans (kw_.mono (Nat.le_trans hBW hS.2.size))
      clear hS
      have hS := KeptB.of hRK
      clear hRK
      replace HTK := Lib.hid (HTK.out.below kw_)
      replace HDN := Lib.hid (HDN.out.below kw_)
      clear kw_
      clear q_ hq_
      refine hK.out _ _ (fun _ => hS) ?_
      clear hK K
      try simp only [Act.put, List.setIfInBounds_toArray, List.set]
      refine wpAnyL_take (i := 16) (oi := _) (v := ?_) (by (simp only [List.getElem?_toArray]; rfl)) (by kernel_rfl) (by kernel_rfl) (by kernel_rfl) (by kernel_rfl) (by exact fun _ _ _ h => h) (Or.inl ⟨by rfl, ?_⟩) (by assumption) ?_
      rotate_left
      ·
       intro wS hSw
       go_simp
       all_goals first | with_reducible rfl | rw [if_neg (by omega)]
      simp only [Act.put, List.setIfInBounds_toArray, List.set]
      refine wpAnyL_ready (rs := [17]) (by kernel_rfl) (by simp) ?_
      refine AllReadyL.cons (o := _) (by (simp only [List.getElem?_toArray]; rfl)) (fun K hK => ?_) AllReadyL.nil
      go_simp
      obtain ⟨W_5, hw_, sw_, hv_, kw_⟩ := blocks1 W_4 (.cells #[.int .i64 0, .int .i64 0, .bool false, .int .i64 0, .slice none 0 0, .slice none 0 0, .slice none 0 0] 78)
      rw [← hw_]
      clear hw_
      have hgl_ : W_4.heap.size < W_5.heap.size := by omega
      have hg0_ : W.heap.size ≤ W_4.heap.size := Nat.le_trans hBW hS.2.size
      have hgX := Lib.hid (show BlkIs W_4.heap.size #[.int .i64 0, .int .i64 0, .bool false, .int .i64 0, .slice none 0 0, .slice none 0 0, .slice none 0 0] 78 W_5 from hv_)
      clear hv_ sw_
      have hRK : Below W.heap.size W W_5 := hS.2.trans (kw_.mono (Nat.le_trans hBW hS.2.size))
      clear hS
      have hS := KeptB.of hRK
      clear hRK
      replace HTK := Lib.hid (HTK.out.below kw_)
      replace HDN := Lib.hid (HDN.out.below kw_)
      clear kw_
      refine hK.out _ _ (fun _ => hS) ?_
      clear hK K
      try simp only [Act.put, List.setIfInBounds_toArray, List.set]
      refine wpAnyL_ready (rs := [18]) (by kernel_rfl) (by simp) ?_
      refine AllReadyL.cons (o := _) (by (simp only [List.getElem?_toArray]; rfl)) (fun K hK => ?_) AllReadyL.nil
      have zq_ := hgX.out
      unfold BlkIs at zq_
      have cq_ := cell_of_block zq_
      have fq_ := unfrozen_of_block zq_
      have lq_ := lt_of_block zq_
      go_simp
      obtain ⟨Q1, hV_, sV_, x9, oV_, kV_⟩ := stored7 W_5 (W_4.heap.size) _ _ _ _ _ _ _ (.int .i64 r.me) (.int .i64 r.view) (.bool r.live) (.int .i64 r.nx) (.slice a1 r.tk.length c1) (.slice none 0 0) (.slice a2 r.dn.length c2) zq_
      rw [← hV_]
      clear hV_
      have KQ := Lib.hid (hS.2.trans (kV_.mono hg0_))
      replace hS := KeptB.of KQ.out
      clear zq_ cq_ fq_ lq_ kV_ oV_ sV_ hgX
      refine hK.out _ _ (fun _ => hS) ?_
      clear hK K
      try simp only [Act.put, List.setIfInBounds_toArray, List.set]
      refine wpAnyL_done (by kernel_rfl) ?_ _
      clear hS
      clear cx fx lx
      go_wp2_with fail
      go_meet
      exact ⟨W_4.heap.size, a1, a2, c1, c2, rfl, hg0_, x9, KQ.out⟩
     refine AllReadyL.cons (o := _) (by (simp only [List.getElem?_toArray]; rfl)) (fun K hK => ?_) ?_
     ·
      skip
      go_simp
      obtain ⟨W_4, hw_, sw_, hv_, kw_⟩ := blocks1 W_3 (.cells #[.int .i64 0, .int .i64 0, .bool false, .int .i64 0, .slice none 0 0, .slice none 0 0, .slice none 0 0] 78)
      rw [← hw_]
      clear hw_
      have hgl_ : W_3.heap.size < W_4.heap.size := by omega
      have hg0_ : W.heap.size ≤ W_3.heap.size := Nat.le_trans hBW hS.2.size
      have hgX := Lib.hid (show BlkIs W_3.heap.size #[.int .i64 0, .int .i64 0, .bool false, .int .i64 0, .slice none 0 0, .slice none 0 0, .slice none 0 0] 78 W_4 from hv_)
      clear hv_ sw_
      have hRK : Below W.heap.size W W_4 := hS.2.trans (kw_.mono (Nat.le_trans hBW hS.2.size))
      clear hS
      have hS := KeptB.of hRK
      clear hRK
      replace HTK := Lib.hid (HTK.out.below kw_)
      replace HDN := Lib.hid (HDN.out.below kw_)
      clear kw_
      refine hK.out _ _ (fun _ => hS) ?_
      clear hK K
      try simp only [Act.put, List.setIfInBounds_toArray, List.set]
      refine wpAnyL_ready (rs := [15]) (by kernel_rfl) (by simp) ?_
      refine AllReadyL.cons (o := _) (by (simp only [List.getElem?_toArray]; rfl)) (fun K hK => ?_) AllReadyL.nil
      refine step_append_newM W_4.heap.size (by rfl) (.tmp 17) (.tmp 19) (by rfl) elmCl (by rfl) (by rfl) (fun z _ => cl_one z) (HDN.out) (by rfl) (by simp only [maxLen]; omega) (by omega) (Nat.le_refl _) ?_
      intro a2 c2 W_5 q_
      have hq_ : W.heap.size ≤ W_4.heap.size := Nat.le_trans hBW hS.2.size
      have kw_ := q_.below
      have hRK : Below W.heap.size W W_5 := hS.2.trans (kw_.mono (Nat.le_trans hBW hS.2.size))
      clear hS
      have hS := KeptB.of hRK
      clear hRK
      replace HTK := Lib.hid (HTK.out.below kw_)
      replace HDN := Lib.hid (HDN.out.below kw_)
      replace hgX := Lib.hid (hgX.out.below kw_)
      clear kw_
      clear q_ hq_
      refine hK.out _ _ (fun _ => hS) ?_
      clear hK K
      try simp only [Act.put, List.setIfInBounds_toArray, List.set]
      refine wpAnyL_take (i := 16) (oi := _) (v := ?_) (by (simp only [List.getElem?_toArray]; rfl)) (by kernel_rfl) (by kernel_rfl) (by kernel_rfl) (by kernel_rfl) (by exact fun _ _ _ h => h) (Or.inl ⟨by rfl, ?_⟩) (by assumption) ?_
      rotate_left
      ·
       intro wS hSw
       go_simp
       all_goals first | with_reducible rfl | rw [if_neg (by omega)]
      simp only [Act.put, List.setIfInBounds_toArray, List.set]
      refine wpAnyL_ready (rs := [18]) (by kernel_rfl) (by simp) ?_
      refine AllReadyL.cons (o := _) (by (simp only [List.getElem?_toArray]; rfl)) (fun K hK => ?_) AllReadyL.nil
      have zq_ := hgX.out
      unfold BlkIs at zq_
      have cq_ := cell_of_block zq_
      have fq_ := unfrozen_of_block zq_
      have lq_ := lt_of_block zq_
      go_simp
      obtain ⟨Q1, hV_, sV_, x9, oV_, kV_⟩ := stored7 W_5 (W_3.heap.size) _ _ _ _ _ _ _ (.int .i64 r.me) (.int .i64 r.view) (.bool r.live) (.int .i64 r.nx) (.slice a1 r.tk.length c1) (.slice none 0 0) (.slice a2 r.dn.length c2) zq_
      rw [← hV_]
      clear hV_
      have KQ := Lib.hid (hS.2.trans (kV_.mono hg0_))
      replace hS := KeptB.of KQ.out
      clear zq_ cq_ fq_ lq_ kV_ oV_ sV_ hgX
      refine hK.out _ _ (fun _ => hS) ?_
      clear hK K
      try simp only [Act.put, List.setIfInBounds_toArray, List.set]
      refine wpAnyL_done (by kernel_rfl) ?_ _
      clear hS
      clear cx fx lx
      go_wp2_with fail
      go_meet
      exact ⟨W_3.heap.size, a1, a2, c1, c2, rfl, hg0_, x9, KQ.out⟩
     exact AllReadyL.nil
    refine AllReadyL.cons (o := _) (by (simp only [List.getElem?_toArray]; rfl)) (fun K hK => ?_) ?_
    ·
     skip
     go_simp
     obtain ⟨W_3, hw_, sw_, hv_, kw_⟩ := blocks1 W_2 (.cells #[.int .i64 0, .int .i64 0, .bool false, .int .i64 0, .slice none 0 0, .slice none 0 0, .slice none 0 0] 78)
     rw [← hw_]
     clear hw_
     have hgl_ : W_2.heap.size < W_3.heap.size := by omega
     have hg0_ : W.heap.size ≤ W_2.heap.size := Nat.le_trans hBW hS.2.size
     have hgX := Lib.hid (show BlkIs W_2.heap.size #[.int .i64 0, .int .i64 0, .bool false, .int .i64 0, .slice none 0 0, .slice none 0 0, .slice none 0 0] 78 W_3 from hv_)
     clear hv_ sw_
     have hRK : Below W.heap.size W W_3 := hS.2.trans (kw_.mono (Nat.le_trans hBW hS.2.size))
     clear hS
     have hS := KeptB.of hRK
     clear hRK
     replace HTK := Lib.hid (HTK.out.below kw_)
     replace HDN := Lib.hid (HDN.out.below kw_)
     clear kw_
     refine hK.out _ _ (fun _ => hS) ?_
     clear hK K
     try simp only [Act.put, List.setIfInBounds_toArray, List.set]
     refine wpAnyL_ready (rs := [11]) (by kernel_rfl) (by simp) ?_
     refine AllReadyL.cons (o := _) (by (simp only [List.getElem?_toArray]; rfl)) (fun K hK => ?_) AllReadyL.nil
     refine step_append_newM W_3.heap.size (by rfl) (.tmp 13) (.tmp 15) (by rfl) elmCl (by rfl) (by rfl) (fun z _ => cl_one z) (HTK.out) (by rfl) (by simp only [maxLen]; omega) (by omega) (Nat.le_refl _) ?_
     intro a1 c1 W_4 q_
     have hq_ : W.heap.size ≤ W_3.heap.size := Nat.le_trans hBW hS.2.size
     have kw_ := q_.below
     have hRK : Below W.heap.size W W_4 := hS.2.trans (kw_.mono (Nat.le_trans hBW hS.2.size))
     clear hS
     have hS := KeptB.of hRK
     clear hRK
     replace HTK := Lib.hid (HTK.out.below kw_)
     replace HDN := Lib.hid (HDN.out.below kw_)
     replace hgX := Lib.hid (hgX.out.below kw_)
     clear kw_
     clear q_ hq_
     refine hK.out _ _ (fun _ => hS) ?_
     clear hK K
     try simp only [Act.put, List.setIfInBounds_toArray, List.set]
     refine wpAnyL_ready (rs := [15]) (by kernel_rfl) (by simp) ?_
     refine AllReadyL.cons (o := _) (by (simp only [List.getElem?_toArray]; rfl)) (fun K hK => ?_) AllReadyL.nil
     refine step_append_newM W_4.heap.size (by rfl) (.tmp 17) (.tmp 19) (by rfl) elmCl (by rfl) (by rfl) (fun z _ => cl_one z) (HDN.out) (by rfl) (by simp only [maxLen]; omega) (by omega) (Nat.le_refl _) ?_
     intro a2 c2 W_5 q_
     have hq_ : W.heap.size ≤ W_4.heap.size := Nat.le_trans hBW hS.2.size
     have kw_ := q_.below
     have hRK : Below W.heap.size W W_5 := hS.2.trans (kw_.mono (Nat.le_trans hBW hS.2.size))
     clear hS
     have hS := KeptB.of hRK
     clear hRK
     replace HTK := Lib.hid (HTK.out.below kw_)
     replace HDN := Lib.hid (HDN.out.below kw_)
     replace hgX := Lib.hid (hgX.out.below kw_)
     clear kw_
     clear q_ hq_
     refine hK.out _ _ (fun _ => hS) ?_
     clear hK K
     try simp only [Act.put, List.setIfInBounds_toArray, List.set]
     refine wpAnyL_take (i := 16) (oi := _) (v := ?_) (by (simp only [List.getElem?_toArray]; rfl)) (by kernel_rfl) (by kernel_rfl) (by kernel_rfl) (by kernel_rfl) (by exact fun _ _ _ h => h) (Or.inl ⟨by rfl, ?_⟩) (by assumption) ?_
     rotate_left
     ·
      intro wS hSw
      go_simp
      all_goals first | with_reducible rfl | rw [if_neg (by omega)]
     simp only [Act.put, List.setIfInBounds_toArray, List.set]
     refine wpAnyL_ready (rs := [18]) (by kernel_rfl) (by simp) ?_
     refine AllReadyL.cons (o := _) (by (simp only [List.getElem?_toArray]; rfl)) (fun K hK => ?_) AllReadyL.nil
     have zq_ := hgX.out
     unfold BlkIs at zq_
     have cq_ := cell_of_block zq_
     have fq_ := unfrozen_of_block zq_
     have lq_ := lt_of_block zq_
     go_simp
     obtain ⟨Q1, hV_, sV_, x9, oV_, kV_⟩ := stored7 W_5 (W_2.heap.size) _ _ _ _ _ _ _ (.int .i64 r.me) (.int .i64 r.view) (.bool r.live) (.int .i64 r.nx) (.slice a1 r.tk.length c1) (.slice none 0 0) (.slice a2 r.dn.length c2) zq_
     rw [← hV_]
     clear hV_
     have KQ := Lib.hid (hS.2.trans (kV_.mono hg0_))
     replace hS := KeptB.of KQ.out
     clear zq_ cq_ fq_ lq_ kV_ oV_ sV_ hgX
     refine hK.out _ _ (fun _ => hS) ?_
     clear hK K
     try simp only [Act.put, List.setIfInBounds_toArray, List.set]
     refine wpAnyL_done (by kernel_rfl) ?_ _
     clear hS
     clear cx fx lx
     go_wp2_with fail
     go_meet
     exact ⟨W_2.heap.size, a1, a2, c1, c2, rfl, hg0_, x9, KQ.out⟩
    exact AllReadyL.nil
   refine AllReadyL.cons (o := _) (by (simp only [List.getElem?_toArray]; rfl)) (fun K hK => ?_) ?_
   ·
    skip
    go_simp
    obtain ⟨W_2, hw_, sw_, hv_, kw_⟩ := blocks1 W_1 (.cells #[.int .i64 0, .int .i64 0, .bool false, .int .i64 0, .slice none 0 0, .slice none 0 0, .slice none 0 0] 78)
    rw [← hw_]
    clear hw_
    have hgl_ : W_1.heap.size < W_2.heap.size := by omega
    have hg0_ : W.heap.size ≤ W_1.heap.size := Nat.le_trans hBW hS.2.size
    have hgX := Lib.hid (show BlkIs W_1.heap.size #[.int .i64 0, .int .i64 0, .bool false, .int .i64 0, .slice none 0 0, .slice none 0 0, .slice none 0 0] 78 W_2 from hv_)
    clear hv_ sw_
    have hRK : Below W.heap.size W W_2 := hS.2.trans (kw_.mono (Nat.le_trans hBW hS.2.size))
    clear hS
    have hS := KeptB.of hRK
    clear hRK
    replace HTK := Lib.hid (HTK.out.below kw_)
    replace HDN := Lib.hid (HDN.out.below kw_)
    clear kw_
    refine hK.out _ _ (fun _ => hS) ?_
    clear hK K
    try simp only [Act.put, List.setIfInBounds_toArray, List.set]
    refine wpAnyL_ready (rs := [8]) (by kernel_rfl) (by simp) ?_
    refine AllReadyL.cons (o := _) (by (simp only [List.getElem?_toArray]; rfl)) (fun K hK => ?_) AllReadyL.nil
    refine step_build0M (by rfl) (by rfl) elmCl ?_
    obtain ⟨W_3, hw_, kw_⟩ : ∃ V, V = W_2.alloc (.cells #[] 62) ∧ Below W_2.heap.size W_2 V := ⟨_, rfl, (Below.refl _ _).alloc (Nat.le_refl _) _⟩
    rw [← hw_]
    clear hw_
    have hRK : Below W.heap.size W W_3 := hS.2.trans (kw_.mono (Nat.le_trans hBW hS.2.size))
    clear hS
    have hS := KeptB.of hRK
    clear hRK
    replace HTK := Lib.hid (HTK.out.below kw_)
    replace HDN := Lib.hid (HDN.out.below kw_)
    replace hgX := Lib.hid (hgX.out.below kw_)
    clear kw_
    refine hK.out _ _ (fun _ => hS) ?_
    clear hK K
    try simp only [Act.put, List.setIfInBounds_toArray, List.set]
    refine wpAnyL_ready (rs := [11]) (by kernel_rfl) (by simp) ?_
    refine AllReadyL.cons (o := _) (by (simp only [List.getElem?_toArray]; rfl)) (fun K hK => ?_) AllReadyL.nil
    refine step_append_newM W_3.heap.size (by rfl) (.tmp 13) (.tmp 15) (by rfl) elmCl (by rfl) (by rfl) (fun z _ => cl_one z) (HTK.out) (by rfl) (by simp only [maxLen]; omega) (by omega) (Nat.le_refl _) ?_
    intro a1 c1 W_4 q_
    have hq_ : W.heap.size ≤ W_3.heap.size := Nat.le_trans hBW hS.2.size
    have kw_ := q_.below
    have hRK : Below W.heap.size W W_4 := hS.2.trans (kw_.mono (Nat.le_trans hBW hS.2.size))
    clear hS
    have hS := KeptB.of hRK
    clear hRK
    replace HTK := Lib.hid (HTK.out.below kw_)
    replace HDN := Lib.hid (HDN.out.below kw_)
    replace hgX := Lib.hid (hgX.out.below kw_)
    clear kw_
    clear q_ hq_
    refine hK.out _ _ (fun _ => hS) ?_
    clear hK K
    try simp only [Act.put, List.setIfInBounds_toArray, List.set]
    refine wpAnyL_ready (rs := [15]) (by kernel_rfl) (by simp) ?_
    refine AllReadyL.cons (o := _) (by (simp only [List.getElem?_toArray]; rfl)) (fun K hK => ?_) AllReadyL.nil
    refine step_append_newM W_4.heap.size (by rfl) (.tmp 17) (.tmp 19) (by rfl) elmCl (by rfl) (by rfl) (fun z _ => cl_one z) (HDN.out) (by rfl) (by simp only [maxLen]; omega) (by omega) (Nat.le_refl _) ?_
    intro a2 c2 W_5 q_
    have hq_ : W.heap.size ≤ W_4.heap.size := Nat.le_trans hBW hS.2.size
    have kw_ := q_.below
    have hRK : Below W.heap.size W W_5 := hS.2.trans (kw_.mono (Nat.le_trans hBW hS.2.size))
    clear hS
    have hS := KeptB.of hRK
    clear hRK
    replace HTK := Lib.hid (HTK.out.below kw_)
    replace HDN := Lib.hid (HDN.out.below kw_)
    replace hgX := Lib.hid (hgX.out.below kw_)
    clear kw_
    clear q_ hq_
    refine hK.out _ _ (fun _ => hS) ?_
    clear hK K
    try simp only [Act.put, List.setIfInBounds_toArray, List.set]
    refine wpAnyL_take (i := 16) (oi := _) (v := ?_) (by (simp only [List.getElem?_toArray]; rfl)) (by kernel_rfl) (by kernel_rfl) (by kernel_rfl) (by kernel_rfl) (by exact fun _ _ _ h => h) (Or.inl ⟨by rfl, ?_⟩) (by assumption) ?_
    rotate_left
    ·
     intro wS hSw
     go_simp
     all_goals first | with_reducible rfl | rw [if_neg (by omega)]
    simp only [Act.put, List.setIfInBounds_toArray, List.set]
    refine wpAnyL_ready (rs := [18]) (by kernel_rfl) (by simp) ?_
    refine AllReadyL.cons (o := _) (by (simp only [List.getElem?_toArray]; rfl)) (fun K hK => ?_) AllReadyL.nil
    have zq_ := hgX.out
    unfold BlkIs at zq_
    have cq_ := cell_of_block zq_
    have fq_ := unfrozen_of_block zq_
    have lq_ := lt_of_block zq_
    go_simp
    obtain ⟨Q1, hV_, sV_, x9, oV_, kV_⟩ := stored7 W_5 (W_1.heap.size) _ _ _ _ _ _ _ (.int .i64 r.me) (.int .i64 r.view) (.bool r.live) (.int .i64 r.nx) (.slice a1 r.tk.length c1) (.slice none 0 0) (.slice a2 r.dn.length c2) zq_
    rw [← hV_]
    clear hV_
    have KQ := Lib.hid (hS.2.trans (kV_.mono hg0_))
    replace hS := KeptB.of KQ.out
    clear zq_ cq_ fq_ lq_ kV_ oV_ sV_ hgX
    refine hK.out _ _ (fun _ => hS) ?_
    clear hK K
    try simp only [Act.put, List.setIfInBounds_toArray, List.set]
    refine wpAnyL_done (by kernel_rfl) ?_ _
    clear hS
    clear cx fx lx
    go_wp2_with fail
    go_meet
    exact ⟨W_1.heap.size, a1, a2, c1, c2, rfl, hg0_, x9, KQ.out⟩
   exact AllReadyL.nil
  refine AllReadyL.cons (o := _) (by (simp only [List.getElem?_toArray]; rfl)) (fun K hK => ?_) ?_
  ·
   skip
   go_simp
   obtain ⟨W_1, hw_, sw_, hv_, kw_⟩ := blocks1 W_0 (.cells #[.int .i64 0, .int .i64 0, .bool false, .int .i64 0, .slice none 0 0, .slice none 0 0, .slice none 0 0] 78)
   rw [← hw_]
   clear hw_
   have hgl_ : W_0.heap.size < W_1.heap.size := by omega
   have hg0_ : W.heap.size ≤ W_0.heap.size := Nat.le_trans hBW hS.2.size
   have hgX := Lib.hid (show BlkIs W_0.heap.size #[.int .i64 0, .int .i64 0, .bool false, .int .i64 0, .slice none 0 0, .slice none 0 0, .slice none 0 0] 78 W_1 from hv_)
   clear hv_ sw_
   have hRK : Below W.heap.size W W_1 := hS.2.trans (kw_.mono (Nat.le_trans hBW hS.2.size))
   clear hS
   have hS := KeptB.of hRK
   clear hRK
   replace HTK := Lib.hid (HTK.out.below kw_)
   replace HDN := Lib.hid (HDN.out.below kw_)
   clear kw_
   refine hK.out _ _ (fun _ => hS) ?_
   clear hK K
   try simp only [Act.put, List.setIfInBounds_toArray, List.set]
   refine wpAnyL_ready (rs := [8, 12]) (by kernel_rfl) (by simp) ?_
   refine AllReadyL.cons (o := _) (by (simp only [List.getElem?_toArray]; rfl)) (fun K hK => ?_) ?_
   ·
    skip
    refine step_build0M (by rfl) (by rfl) elmCl ?_
    obtain ⟨W_2, hw_, kw_⟩ : ∃ V, V = W_1.alloc (.cells #[] 62) ∧ Below W_1.heap.size W_1 V := ⟨_, rfl, (Below.refl _ _).alloc (Nat.le_refl _) _⟩
    rw [← hw_]
    clear hw_
    have hRK : Below W.heap.size W W_2 := hS.2.trans (kw_.mono (Nat.le_trans hBW hS.2.size))
    clear hS
    have hS := KeptB.of hRK
    clear hRK
    replace HTK := Lib.hid (HTK.out.below kw_)
    replace HDN := Lib.hid (HDN.out.below kw_)
    replace hgX := Lib.hid (hgX.out.below kw_)
    clear kw_
    refine hK.out _ _ (fun _ => hS) ?_
    clear hK K
    try simp only [Act.put, List.setIfInBounds_toArray, List.set]
    refine wpAnyL_ready (rs := [11, 12]) (by kernel_rfl) (by simp) ?_
    refine AllReadyL.cons (o := _) (by (simp only [List.getElem?_toArray]; rfl)) (fun K hK => ?_) ?_
    ·
     skip
     refine step_append_newM W_2.heap.size (by rfl) (.tmp 13) (.tmp 15) (by rfl) elmCl (by rfl) (by rfl) (fun z _ => cl_one z) (HTK.out) (by rfl) (by simp only [maxLen]; omega) (by omega) (Nat.le_refl _) ?_
     intro a1 c1 W_3 q_
     have hq_ : W.heap.size ≤ W_2.heap.size := Nat.le_trans hBW hS.2.size
     have kw_ := q_.below
     have hRK : Below W.heap.size W W_3 := hS.2.trans (kw_.mono (Nat.le_trans hBW hS.2.size))
     clear hS
     have hS := KeptB.of hRK
     clear hRK
     replace HTK := Lib.hid (HTK.out.below kw_)
     replace HDN := Lib.hid (HDN.out.below kw_)
     replace hgX := Lib.hid (hgX.out.below kw_)
     clear kw_
     clear q_ hq_
     refine hK.out _ _ (fun _ => hS) ?_
     clear hK K
     try simp only [Act.put, List.setIfInBounds_toArray, List.set]
     refine wpAnyL_ready (rs := [12]) (by kernel_rfl) (by simp) ?_
     refine AllReadyL.cons (o := _) (by (simp only [List.getElem?_toArray]; rfl)) (fun K hK => ?_) AllReadyL.nil
     refine step_build0M (by rfl) (by rfl) elmCl ?_
     obtain ⟨W_4, hw_, kw_⟩ : ∃ V, V = W_3.alloc (.cells #[] 62) ∧ Below W_3.heap.size W_3 V := ⟨_, rfl, (Below.refl _ _).alloc (Nat.le_refl _) _⟩
     rw [← hw_]
     clear hw_
     have hRK : Below W.heap.size W W_4 := hS.2.trans (kw_.mono (Nat.le_trans hBW hS.2.size))
     clear hS
     have hS := KeptB.of hRK
     clear hRK
     replace HTK := Lib.hid (HTK.out.below kw_)
     replace HDN := Lib.hid (HDN.out.below kw_)
     replace hgX := Lib.hid (hgX.out.below kw_)
     clear kw_
     refine hK.out _ _ (fun _ => hS) ?_
     clear hK K
     try simp only [Act.put, List.setIfInBounds_toArray, List.set]
     refine wpAnyL_ready (rs := [15]) (by kernel_rfl) (by simp) ?_
     refine AllReadyL.cons (o := _) (by (simp only [List.getElem?_toArray]; rfl)) (fun K hK => ?_) AllReadyL.nil
     refine step_append_newM W_4.heap.size (by rfl) (.tmp 17) (.tmp 19) (by rfl) elmCl (by rfl) (by rfl) (fun z _ => cl_one z) (HDN.out) (by rfl) (by simp only [maxLen]; omega) (by omega) (Nat.le_refl _) ?_
     intro a2 c2 W_5 q_
     have hq_ : W.heap.size ≤ W_4.heap.size := Nat.le_trans hBW hS.2.size
     have kw_ := q_.below
     have hRK : Below W.heap.size W W_5 := hS.2.trans (kw_.mono (Nat.le_trans hBW hS.2.size))
     clear hS
     have hS := KeptB.of hRK
     clear hRK
     replace HTK := Lib.hid (HTK.out.below kw_)
     replace HDN := Lib.hid (HDN.out.below kw_)
     replace hgX := Lib.hid (hgX.out.below kw_)
     clear kw_
     clear q_ hq_
     refine hK.out _ _ (fun _ => hS) ?_
     clear hK K
     try simp only [Act.put, List.setIfInBounds_toArray, List.set]
     refine wpAnyL_take (i := 16) (oi := _) (v := ?_) (by (simp only [List.getElem?_toArray]; rfl)) (by kernel_rfl) (by kernel_rfl) (by kernel_rfl) (by kernel_rfl) (by exact fun _ _ _ h => h) (Or.inl ⟨by rfl, ?_⟩) (by assumption) ?_
     rotate_left
     ·
      intro wS hSw
      go_simp
      all_goals first | with_reducible rfl | rw [if_neg (by omega)]
     simp only [Act.put, List.setIfInBounds_toArray, List.set]
     refine wpAnyL_ready (rs := [18]) (by kernel_rfl) (by simp) ?_
     refine AllReadyL.cons (o := _) (by (simp only [List.getElem?_toArray]; rfl)) (fun K hK => ?_) AllReadyL.nil
     have zq_ := hgX.out
     unfold BlkIs at zq_
     have cq_ := cell_of_block zq_
     have fq_ := unfrozen_of_block zq_
     have lq_ := lt_of_block zq_
     go_simp
     obtain ⟨Q1, hV_, sV_, x9, oV_, kV_⟩ := stored7 W_5 (W_0.heap.size) _ _ _ _ _ _ _ (.int .i64 r.me) (.int .i64 r.view) (.bool r.live) (.int .i64 r.nx) (.slice a1 r.tk.length c1) (.slice none 0 0) (.slice a2 r.dn.length c2) zq_
     rw [← hV_]
     clear hV_
     have KQ := Lib.hid (hS.2.trans (kV_.mono hg0_))
     replace hS := KeptB.of KQ.out
     clear zq_ cq_ fq_ lq_ kV_ oV_ sV_ hgX
     refine hK.out _ _ (fun _ => hS) ?_
     clear hK K
     try simp only [Act.put, List.setIfInBounds_toArray, List.set]
     refine wpAnyL_done (by kernel_rfl) ?_ _
     clear hS
     clear cx fx lx
     go_wp2_with fail
     go_meet
     exact ⟨W_0.heap.size, a1, a2, c1, c2, rfl, hg0_, x9, KQ.out⟩
    refine AllReadyL.cons (o := _) (by (simp only [List.getElem?_toArray]; rfl)) (fun K hK => ?_) ?_
    ·
     skip
     refine step_build0M (by rfl) (by rfl) elmCl ?_
     obtain ⟨W_3, hw_, kw_⟩ : ∃ V, V = W_2.alloc (.cells #[] 62) ∧ Below W_2.heap.size W_2 V := ⟨_, rfl, (Below.refl _ _).alloc (Nat.le_refl _) _⟩
     rw [← hw_]
     clear hw_
     have hRK : Below W.heap.size W W_3 := hS.2.trans (kw_.mono (Nat.le_trans hBW hS.2.size))
     clear hS
     have hS := KeptB.of hRK
     clear hRK
     replace HTK := Lib.hid (HTK.out.below kw_)
     replace HDN := Lib.hid (HDN.out.below kw_)
     replace hgX := Lib.hid (hgX.out.below kw_)
     clear kw_
     refine hK.out _ _ (fun _ => hS) ?_
     clear hK K
     try simp only [Act.put, List.setIfInBounds_toArray, List.set]
     refine wpAnyL_ready (rs := [11]) (by kernel_rfl) (by simp) ?_
     refine AllReadyL.cons (o := _) (by (simp only [List.getElem?_toArray]; rfl)) (fun K hK => ?_) AllReadyL.nil
     refine step_append_newM W_3.heap.size (by rfl) (.tmp 13) (.tmp 15) (by rfl) elmCl (by rfl) (by rfl) (fun z _ => cl_one z) (HTK.out) (by rfl) (by simp only [maxLen]; omega) (by omega) (Nat.le_refl _) ?_
     intro a1 c1 W_4 q_
     have hq_ : W.heap.size ≤ W_3.heap.size := Nat.le_trans hBW hS.2.size
     have kw_ := q_.below
     have hRK : Below W.heap.size W W_4 := hS.2.trans (kw_.mono (Nat.le_trans hBW hS.2.size))
     clear hS
     have hS := KeptB.of hRK
     clear hRK
     replace HTK := Lib.hid (HTK.out.below kw_)
     replace HDN := Lib.hid (HDN.out.below kw_)
     replace hgX := Lib.hid (hgX.out.below kw_)
     clear kw_
     clear q_ hq_
     refine hK.out _ _ (fun _ => hS) ?_
     clear hK K
     try simp only [Act.put, List.setIfInBounds_toArray, List.set]
     refine wpAnyL_ready (rs := [15]) (by kernel_rfl) (by simp) ?_
     refine AllReadyL.cons (o := _) (by (simp only [List.getElem?_toArray]; rfl)) (fun K hK => ?_) AllReadyL.nil
     refine step_append_newM W_4.heap.size (by rfl) (.tmp 17) (.tmp 19) (by rfl) elmCl (by rfl) (by rfl) (fun z _ => cl_one z) (HDN.out) (by rfl) (by simp only [maxLen]; omega) (by omega) (Nat.le_refl _) ?_
     intro a2 c2 W_5 q_
     have hq_ : W.heap.size ≤ W_4.heap.size := Nat.le_trans hBW hS.2.size
     have kw_ := q_.below
     have hRK : Below W.heap.size W W_5 := hS.2.trans (kw_.mono (Nat.le_trans hBW hS.2.size))
     clear hS
     have hS := KeptB.of hRK
     clear hRK
     replace HTK := Lib.hid (HTK.out.below kw_)
     replace HDN := Lib.hid (HDN.out.below kw_)
     replace hgX := Lib.hid (hgX.out.below kw_)
     clear kw_
     clear q_ hq_
     refine hK.out _ _ (fun _ => hS) ?_
     clear hK K
     try simp only [Act.put, List.setIfInBounds_toArray, List.set]
     refine wpAnyL_take (i := 16) (oi := _) (v := ?_) (by (simp only [List.getElem?_toArray]; rfl)) (by kernel_rfl) (by kernel_rfl) (by kernel_rfl) (by kernel_rfl) (by exact fun _ _ _ h => h) (Or.inl ⟨by rfl, ?_⟩) (by assumption) ?_
     rotate_left
     ·
      intro wS hSw
      go_simp
      all_goals first | with_reducible rfl | rw [if_neg (by omega)]
     simp only [Act.put, List.setIfInBounds_toArray, List.set]
     refine wpAnyL_ready (rs := [18]) (by kernel_rfl) (by simp) ?_
     refine AllReadyL.cons (o := _) (by (simp only [List.getElem?_toArray]; rfl)) (fun K hK => ?_) AllReadyL.nil
     have zq_ := hgX.out
     unfold BlkIs at zq_
     have cq_ := cell_of_block zq_
     have fq_ := unfrozen_of_block zq_
     have lq_ := lt_of_block zq_
     go_simp
     obtain ⟨Q1, hV_, sV_, x9, oV_, kV_⟩ := stored7 W_5 (W_0.heap.size) _ _ _ _ _ _ _ (.int .i64 r.me) (.int .i64 r.view) (.bool r.live) (.int .i64 r.nx) (.slice a1 r.tk.length c1) (.slice none 0 0) (.slice a2 r.dn.length c2) zq_
     rw [← hV_]
     clear hV_
     have KQ := Lib.hid (hS.2.trans (kV_.mono hg0_))
     replace hS := KeptB.of KQ.out
     clear zq_ cq_ fq_ lq_ kV_ oV_ sV_ hgX
     refine hK.out _ _ (fun _ => hS) ?_
     clear hK K
     try simp only [Act.put, List.setIfInBounds_toArray, List.set]
     refine wpAnyL_done (by kernel_rfl) ?_ _
     clear hS
     clear cx fx lx
     go_wp2_with fail
     go_meet
     exact ⟨W_0.heap.size, a1, a2, c1, c2, rfl, hg0_, x9, KQ.out⟩
    exact AllReadyL.nil
   refine AllReadyL.cons (o := _) (by (simp only [List.getElem?_toArray]; rfl)) (fun K hK => ?_) ?_
   ·
    skip
    refine step_build0M (by rfl) (by rfl) elmCl ?_
    obtain ⟨W_2, hw_, kw_⟩ : ∃ V, V = W_1.alloc (.cells #[] 62) ∧ Below W_1.heap.size W_1 V := ⟨_, rfl, (Below.refl _ _).alloc (Nat.le_refl _) _⟩
    rw [← hw_]
    clear hw_
    have hRK : Below W.heap.size W W_2 := hS.2.trans (kw_.mono (Nat.le_trans hBW hS.2.size))
    clear hS
    have hS := KeptB.of hRK
    clear hRK
    replace HTK := Lib.hid (HTK.out.below kw_)
    replace HDN := Lib.hid (HDN.out.below kw_)
    replace hgX := Lib.hid (hgX.out.below kw_)
    clear kw_
    refine hK.out _ _ (fun _ => hS) ?_
    clear hK K
    try simp only [Act.put, List.setIfInBounds_toArray, List.set]
    refine wpAnyL_ready (rs := [8]) (by kernel_rfl) (by simp) ?_
    refine AllReadyL.cons (o := _) (by (simp only [List.getElem?_toArray]; rfl)) (fun K hK => ?_) AllReadyL.nil
    refine step_build0M (by rfl) (by rfl) elmCl ?_
    obtain ⟨W_3, hw_, kw_⟩ : ∃ V, V = W_2.alloc (.cells #[] 62) ∧ Below W_2.heap.size W_2 V := ⟨_, rfl, (Below.refl _ _).alloc (Nat.le_refl _) _⟩
    rw [← hw_]
    clear hw_
    have hRK : Below W.heap.size W W_3 := hS.2.trans (kw_.mono (Nat.le_trans hBW hS.2.size))
    clear hS
    have hS := KeptB.of hRK
    clear hRK
    replace HTK := Lib.hid (HTK.out.below kw_)
    replace HDN := Lib.hid (HDN.out.below kw_)
    replace hgX := Lib.hid (hgX.out.below kw_)
    clear kw_
    refine hK.out _ _ (fun _ => hS) ?_
    clear hK K
    try simp only [Act.put, List.setIfInBounds_toArray, List.set]
    refine wpAnyL_ready (rs := [11]) (by kernel_rfl) (by simp) ?_
    refine AllReadyL.cons (o := _) (by (simp only [List.getElem?_toArray]; rfl)) (fun K hK => ?_) AllReadyL.nil
    refine step_append_newM W_3.heap.size (by rfl) (.tmp 13) (.tmp 15) (by rfl) elmCl (by rfl) (by rfl) (fun z _ => cl_one z) (HTK.out) (by rfl) (by simp only [maxLen]; omega) (by omega) (Nat.le_refl _) ?_
    intro a1 c1 W_4 q_
    have hq_ : W.heap.size ≤ W_3.heap.size := Nat.le_trans hBW hS.2.size
    have kw_ := q_.below
    have hRK : Below W.heap.size W W_4 := hS.2.trans (kw_.mono (Nat.le_trans hBW hS.2.size))
    clear hS
    have hS := KeptB.of hRK
    clear hRK
    replace HTK := Lib.hid (HTK.out.below kw_)
    replace HDN := Lib.hid (HDN.out.below kw_)
    replace hgX := Lib.hid (hgX.out.below kw_)
    clear kw_
    clear q_ hq_
    refine hK.out _ _ (fun _ => hS) ?_
    clear hK K
    try simp only [Act.put, List.setIfInBounds_toArray, List.set]
    refine wpAnyL_ready (rs := [15]) (by kernel_rfl) (by simp) ?_
    refine AllReadyL.cons (o := _) (by (simp only [List.getElem?_toArray]; rfl)) (fun K hK => ?_) AllReadyL.nil
    refine step_append_newM W_4.heap.size (by rfl) (.tmp 17) (.tmp 19) (by rfl) elmCl (by rfl) (by rfl) (fun z _ => cl_one z) (HDN.out) (by rfl) (by simp only [maxLen]; omega) (by omega) (Nat.le_refl _) ?_
    intro a2 c2 W_5 q_
    have hq_ : W.heap.size ≤ W_4.heap.size := Nat.le_trans hBW hS.2.size
    have kw_ := q_.below
    have hRK : Below W.heap.size W W_5 := hS.2.trans (kw_.mono (Nat.le_trans hBW hS.2.size))
    clear hS
    have hS := KeptB.of hRK
    clear hRK
    replace HTK := Lib.hid (HTK.out.below kw_)
    replace HDN := Lib.hid (HDN.out.below kw_)
    replace hgX := Lib.hid (hgX.out.below kw_)
    clear kw_
    clear q_ hq_
    refine hK.out _ _ (fun _ => hS) ?_
    clear hK K
    try simp only [Act.put, List.setIfInBounds_toArray, List.set]
    refine wpAnyL_take (i := 16) (oi := _) (v := ?_) (by (simp only [List.getElem?_toArray]; rfl)) (by kernel_rfl) (by kernel_rfl) (by kernel_rfl) (by kernel_rfl) (by exact fun _ _ _ h => h) (Or.inl ⟨by rfl, ?_⟩) (by assumption) ?_
    rotate_left
    ·
     intro wS hSw
     go_simp
     all_goals first | with_reducible rfl | rw [if_neg (by omega)]
    simp only [Act.put, List.setIfInBounds_toArray, List.set]
    refine wpAnyL_ready (rs := [18]) (by kernel_rfl) (by simp) ?_
    refine AllReadyL.cons (o := _) (by (simp only [List.getElem?_toArray]; rfl)) (fun K hK => ?_) AllReadyL.nil
    have zq_ := hgX.out
    unfold BlkIs at zq_
    have cq_ := cell_of_block zq_
    have fq_ := unfrozen_of_block zq_
    have lq_ := lt_of_block zq_
    go_simp
    obtain ⟨Q1, hV_, sV_, x9, oV_, kV_⟩ := stored7 W_5 (W_0.heap.size) _ _ _ _ _ _ _ (.int .i64 r.me) (.int .i64 r.view) (.bool r.live) (.int .i64 r.nx) (.slice a1 r.tk.length c1) (.slice none 0 0) (.slice a2 r.dn.length c2) zq_
    rw [← hV_]
    clear hV_
    have KQ := Lib.hid (hS.2.trans (kV_.mono hg0_))
    replace hS := KeptB.of KQ.out
    clear zq_ cq_ fq_ lq_ kV_ oV_ sV_ hgX
    refine hK.out _ _ (fun _ => hS) ?_
    clear hK K
    try simp only [Act.put, List.setIfInBounds_toArray, List.set]
    refine wpAnyL_done (by kernel_rfl) ?_ _
    clear hS
    clear cx fx lx
    go_wp2_with fail
    go_meet
    exact ⟨W_0.heap.size, a1, a2, c1, c2, rfl, hg0_, x9, KQ.out⟩
   exact AllReadyL.nil
  exact AllReadyL.nil
 case rest =>
  obtain ⟨g, a1, a2, c1, c2, rfl, hg, v, k1_⟩ := hcut
  have lz_ := lt_of_block z
  replace x := carryB k1_ (lt_of_block x) x
  replace z := carryB k1_ lz_ z
  have K0 := below_next kW k1_
  have hgs := lt_of_block v
  have hgw : w.heap.size + 2 ≤ g := by omega
  have hs0 := Nat.le_refl wc.heap.size
  clear k1_ lz_ HTK HDN kW
  go_wp2_with fail
  go_loopw [4] (fun i wr => ∃ (k : Nat) (aH : Option Addr) (cH : Nat) (hs' : List Mg), k ≤ r.hd.length ∧ i = .int .i64 k ∧ hs'.length = k ∧ wr.heap[w.heap.size]? = some (.cells #[.int .i64 r.me, .int .i64 r.view, .bool r.live, .int .i64 r.nx, .slice r.ta r.tk.length r.tc, .slice r.ha r.hd.length r.hc, .slice r.da r.dn.length r.dc] 78 (0, 0)) ∧ wr.heap[w.heap.size + 1]? = some (.cells #[.int .i64 0, .int .i64 0, .bool false, .int .i64 0, .slice none 0 0, .slice none 0 0, .slice none 0 0] 78 (0, 0)) ∧ wr.heap[g]? = some (.cells #[.int .i64 r.me, .int .i64 r.view, .bool r.live, .int .i64 r.nx, .slice a1 r.tk.length c1, .slice aH hs'.length cH, .slice a2 r.dn.length c2] 78 (0, 0)) ∧
    Row wr wc.heap.size 34 aH cH 11 Mg.cs hs' ∧ wc.heap.size ≤ wr.heap.size ∧ Below w.heap.size w wr) (fun i _ => r.hd.length - (intOf i).toNat)
  case atStart => exact ⟨0, none, 0, [], Nat.zero_le _, rfl, rfl, x, z, v, Row.nil _ _ _ _ _ _, hs0, K0⟩
  case round =>
   clear x z v K0 hs0
   obtain ⟨k, aH, cH, hs', hk, rfl, hl, x, z, v, hrow, hs, K⟩ := hrel
   have RW := Lib.hid hrow
   have HL := Lib.hid hl
   clear hrow hl
   by_cases hlt : k < r.hd.length
   ·
    have hk1 : (k : Int) < (r.hd.length : Int) := by omega
    have hk0 : (0 : Int) ≤ (k : Int) := by omega
    obtain ⟨b1, o1, ea, hl1, hd0⟩ := mg_at HT.out k hlt
    obtain ⟨d0, d1, d2, d3, d4, d5, d6, d7, d8, d9, d10⟩ := hd0 wr K
    have SX := (HC.out r.hd[k] (List.getElem_mem hlt)).below K
    have UF := Lib.hid (MF.out r.hd[k] (List.getElem_mem hlt))
    clear hd0
    generalize r.hd[k] = u at *
    have SU := Lib.hid SX
    obtain ⟨⟨ax, qx, ex, -⟩, ⟨bx, dx, fx, -⟩, -⟩ := SX
    rw [ex] at d9
    rw [fx] at d10
    have EX := Lib.hid (And.intro ex fx)
    clear ex fx
    have EA := Lib.hid ea
    rw [ea] at x
    clear ea
    have cx := cell_of_block x
    have fx := unfrozen_of_block x
    have lx := lt_of_block x
    have cv := cell_of_block v
    have fv := unfrozen_of_block v
    have lv := lt_of_block v
    go_upto_region 5 with fail
    have hBW := hs
    have KW := Lib.hid K
    have hx1 : w.heap.size < wc.heap.size := by omega
    have hl120 : hs'.length ≤ 120 := by have := HL.out; omega
    have hb1 : b1 < wc.heap.size := by omega
    have hne1 : ¬ (w.heap.size = g) := by omega
    have hne2 : ¬ (g = w.heap.size) := by omega
    refine wp_region_L (fun w' => ((∀ b o, b < wc.heap.size → (w').cell? ⟨b, o, none⟩ = (wr).cell? ⟨b, o, none⟩) ∧ Below (wc.heap.size) (wr) (w'))) [11] (by kernel_rfl) ?_
    obtain ⟨wr_0, hw_, kw_⟩ : ∃ wd, wd = wr.drew ∧ Below wr.heap.size wr wd := ⟨_, rfl, Below.drew (Below.refl _ _)⟩
    rw [← hw_]
    clear hw_
    have hS := KeptB.of (kw_.mono hBW)
    replace SU := Lib.hid (SU.out.below kw_)
    replace RW := Lib.hid (RW.out.below kw_)
    clear kw_
    refine wpAnyL_take (i := 0) (oi := _) (v := ?_) (by (simp only [List.getElem?_toArray]; rfl)) (by kernel_rfl) (by kernel_rfl) (by kernel_rfl) (by kernel_rfl) (by exact fun _ _ _ h => h) (Or.inl ⟨by rfl, ?_⟩) (by assumption) ?_
    rotate_left
    ·
     intro wS hSw
     go_simp
     all_goals first | with_reducible rfl | rw [if_neg (by omega)]
    simp only [Act.put, List.setIfInBounds_toArray, List.set]
    refine wpAnyL_take (i := 1) (oi := _) (v := ?_) (by (simp only [List.getElem?_toArray]; rfl)) (by kernel_rfl) (by kernel_rfl) (by kernel_rfl) (by kernel_rfl) (by exact fun _ _ _ h => h) (Or.inl ⟨by rfl, ?_⟩) (by assumption) ?_
    rotate_left
    ·
     intro wS hSw
     go_simp
     all_goals first | with_reducible rfl | rw [if_neg (by omega)]
    simp only [Act.put, List.setIfInBounds_toArray, List.set]
    refine wpAnyL_take (i := 2) (oi := _) (v := ?_) (by (simp only [List.getElem?_toArray]; rfl)) (by kernel_rfl) (by kernel_rfl) (by kernel_rfl) (by kernel_rfl) (by exact fun _ _ _ h => h) (Or.inl ⟨by rfl, ?_⟩) (by assumption) ?_
    rotate_left
    ·
     intro wS hSw
     go_simp
     all_goals first | with_reducible rfl | rw [if_neg (by omega)]
    simp only [Act.put, List.setIfInBounds_toArray, List.set]
    refine wpAnyL_take (i := 3) (oi := _) (v := ?_) (by (simp only [List.getElem?_toArray]; rfl)) (by kernel_rfl) (by kernel_rfl) (by kernel_rfl) (by kernel_rfl) (by exact fun _ _ _ h => h) (Or.inl ⟨by rfl, ?_⟩) (by assumption) ?_
    rotate_left
    ·
     intro wS hSw
     go_simp
     all_goals first | with_reducible rfl | rw [if_neg (by omega)]
    simp only [Act.put, List.setIfInBounds_toArray, List.set]
    refine wpAnyL_take (i := 4) (oi := _) (v := ?_) (by (simp only [List.getElem?_toArray]; rfl)) (by kernel_rfl) (by kernel_rfl) (by kernel_rfl) (by kernel_rfl) (by exact fun _ _ _ h => h) (Or.inl ⟨by rfl, ?_⟩) (by assumption) ?_
    rotate_left
    ·
     intro wS hSw
     go_simp
     all_goals first | with_reducible rfl | rw [if_neg (by omega)]
    simp only [Act.put, List.setIfInBounds_toArray, List.set]
    refine wpAnyL_take (i := 5) (oi := _) (v := ?_) (by (simp only [List.getElem?_toArray]; rfl)) (by kernel_rfl) (by kernel_rfl) (by kernel_rfl) (by kernel_rfl) (by exact fun _ _ _ h => h) (Or.inl ⟨by rfl, ?_⟩) (by assumption) ?_
    rotate_left
    ·
     intro wS hSw
     go_simp
     all_goals first | with_reducible rfl | rw [if_neg (by omega)]
    simp only [Act.put, List.setIfInBounds_toArray, List.set]
    refine wpAnyL_take (i := 6) (oi := _) (v := ?_) (by (simp only [List.getElem?_toArray]; rfl)) (by kernel_rfl) (by kernel_rfl) (by kernel_rfl) (by kernel_rfl) (by exact fun _ _ _ h => h) (Or.inl ⟨by rfl, ?_⟩) (by assumption) ?_
    rotate_left
    ·
     intro wS hSw
     go_simp
     all_goals first | with_reducible rfl | rw [if_neg (by omega)]
    simp only [Act.put, List.setIfInBounds_toArray, List.set]
    refine wpAnyL_ready (rs := [7]) (by kernel_rfl) (by simp) ?_
    refine AllReadyL.cons (o := _) (by (simp only [List.getElem?_toArray]; rfl)) (fun K hK => ?_) AllReadyL.nil
    go_simp
    refine (l3Copy_c _ u wr_0 (isMg_sl EX.out.1 EX.out.2 SU.out) UF.out).mono ?_
    rintro e wr_1 ⟨n1, n2, n3, n4, ys, rfl, hN_, -, kw_⟩
    have hRK : Below wc.heap.size wr wr_1 := hS.2.trans (kw_.mono (Nat.le_trans hBW hS.2.size))
    clear hS
    have hS := KeptB.of hRK
    clear hRK
    replace SU := Lib.hid (SU.out.below kw_)
    replace RW := Lib.hid (RW.out.below kw_)
    clear kw_
    have NL := Lib.hid hN_
    clear hN_
    refine hK.out _ _ (fun _ => hS) ?_
    clear hK K
    try simp only [Act.put, List.setIfInBounds_toArray, List.set]
    refine wpAnyL_ready (rs := [8]) (by kernel_rfl) (by simp) ?_
    refine AllReadyL.cons (o := _) (by (simp only [List.getElem?_toArray]; rfl)) (fun K hK => ?_) AllReadyL.nil
    go_simp
    obtain ⟨wr_2, hw_, sw_, hv_, kw_⟩ := blocks1 wr_1 (.cells #[.int .i64 u.k, .int .i64 u.f, .int .i64 u.v, .int .i64 u.s, .int .i64 u.r.c, .int .i64 u.r.n, .int .i64 u.r.o, .int .i64 u.r.x, .int .i64 u.r.y, .slice n1 u.cl.length n2, .slice n3 u.vs.length n4] 34)
    rw [← hw_]
    clear hw_ sw_
    have hRK : Below wc.heap.size wr wr_2 := hS.2.trans (kw_.mono (Nat.le_trans hBW hS.2.size))
    clear hS
    have hS := KeptB.of hRK
    clear hRK
    replace SU := Lib.hid (SU.out.below kw_)
    replace RW := Lib.hid (RW.out.below kw_)
    replace NL := Lib.hid (NL.out.below kw_)
    clear kw_
    have RV := Lib.hid (show RowsAt wr_2 (some ⟨wr_1.heap.size, 0, none⟩) 11 Mg.cs [u.wth n1 n2 n3 n4 ys] from rows_of_block (R := Mg.cs) (zs := [u.wth n1 n2 n3 n4 ys]) (fun _ => rfl) hv_)
    clear hv_
    refine hK.out _ _ (fun _ => hS) ?_
    clear hK K
    try simp only [Act.put, List.setIfInBounds_toArray, List.set]
    refine wpAnyL_ready (rs := [9]) (by kernel_rfl) (by simp) ?_
    refine AllReadyL.cons (o := _) (by (simp only [List.getElem?_toArray]; rfl)) (fun K hK => ?_) AllReadyL.nil
    refine step_append_elm (by rfl) (.tmp 30) (.tmp 37) (by rfl) (hs'.length + 1) elmMg (by rfl) (by rfl) RW.out (fun z hz => List.mem_singleton.1 hz ▸ mg_one NL.out.out) RV.out (by rfl) (by rfl) (by rfl) (by simp only [maxLen]; omega) (by omega) (Nat.le_trans hBW hS.2.size) ?_
    intro a3 c3 wr_3 q_
    have hrb_ : ∀ g, rowBlk _ _ = some g → wc.heap.size ≤ g := fun g hg => (RW.out.blk hg).1
    have hRK : Below wc.heap.size wr wr_3 := hS.2.trans (q_.below (B' := wc.heap.size) (Nat.le_trans hBW hS.2.size) hrb_)
    clear hS
    have hS := KeptB.of hRK
    clear hRK
    have RT2 := Lib.hid (q_.row)
    clear q_ hrb_
    refine hK.out _ _ (fun _ => hS) ?_
    clear hK K
    try simp only [Act.put, List.setIfInBounds_toArray, List.set]
    refine wpAnyL_take (i := 10) (oi := _) (v := ?_) (by (simp only [List.getElem?_toArray]; rfl)) (by kernel_rfl) (by kernel_rfl) (by kernel_rfl) (by kernel_rfl) (by exact fun _ _ _ h => h) (Or.inl ⟨by rfl, ?_⟩) (by assumption) ?_
    rotate_left
    ·
     intro wS hSw
     go_simp
     all_goals first | with_reducible rfl | rw [if_neg (by omega)]
    simp only [Act.put, List.setIfInBounds_toArray, List.set]
    refine wpAnyL_ready (rs := [11]) (by kernel_rfl) (by simp) ?_
    refine AllReadyL.cons (o := _) (by (simp only [List.getElem?_toArray]; rfl)) (fun K hK => ?_) AllReadyL.nil
    have vq_ := carryB hS.2 (by omega) v
    have xq_ := carryB hS.2 (by omega) x
    have zq_ := carryB hS.2 (by omega) z
    have cq_ := cell_of_block vq_
    have fq_ := unfrozen_of_block vq_
    have lq_ := lt_of_block vq_
    go_simp
    obtain ⟨V, hV_, sV, vV, oV, kV⟩ := stored1 wr_3 g 5 (.slice a3 (hs'.length + 1) c3) vq_
    rw [← hV_]
    clear hV_
    have xV := (oV _ (by omega)).trans xq_
    have zV := (oV _ (by omega)).trans zq_
    have RV2 := Lib.hid (RT2.out.later sV oV (by omega))
    have KV := Lib.hid (KW.out.trans ((hS.2.mono (by omega)).trans (kV.mono (by omega))))
    have hsV : wc.heap.size ≤ V.heap.size := by have := hS.2.size; omega
    clear cq_ fq_ lq_ kV hS RT2 vq_ xq_ zq_
    refine hK.out _ _ (fun h => absurd h (by decide)) ?_
    clear hK K
    try simp only [Act.put, List.setIfInBounds_toArray, List.set]
    refine wpAnyL_done (by kernel_rfl) ?_ _
    clear cx fx lx cv fv lv
    clear d0 d1 d2 d3 d4 d5 d6 d7 d8 d9 d10 x v
    rw [← EA.out] at xV
    have X_ := Lib.hid xV
    have Z_ := Lib.hid zV
    have V_ := Lib.hid vV
    clear xV zV vV z
    go_wp2_with fail
    go_roundw
    case rel => exact ⟨k + 1, a3, c3, hs' ++ [u.wth n1 n2 n3 n4 ys], by omega, by go_num, by have := HL.out; simp; omega, X_.out, Z_.out, by simpa using V_.out, RV2.out, by omega, KV.out⟩
    case measure => simp [intOf]; omega
   ·
    have hkf : ¬ ((k : Int) < (r.hd.length : Int)) := by omega
    have hne1 : ¬ (w.heap.size + 1 = g) := by omega
    have hne2 : ¬ (g = w.heap.size + 1) := by omega
    have cx := cell_of_block x
    have fx := unfrozen_of_block x
    have lx := lt_of_block x
    have cz := cell_of_block z
    have fz := unfrozen_of_block z
    have lz := lt_of_block z
    have cv := cell_of_block v
    have fv := unfrozen_of_block v
    have lv := lt_of_block v
    go_wp2_with fail
    refine bodyPost_ret (v := .agg #[.int .i64 r.me, .int .i64 r.view, .bool r.live, .int .i64 r.nx, .slice a1 r.tk.length c1, .slice aH hs'.length cH, .slice a2 r.dn.length c2]) (by simp [results, Try.results76, go_sem, cz]) rfl ?_
    exact ⟨⟨r.me, r.view, r.live, r.nx, a1, c1, r.tk, aH, cH, hs', a2, c2, r.dn⟩, rfl, (by repeat' (first | with_reducible exact Below.refl _ _ | with_reducible assumption | with_reducible refine Below.alloc ?_ ?_ _ | with_reducible refine Below.drew ?_ | with_reducible refine Below.setCell ?_ ?_ _ | omega | (simp; omega) | (simp; done)))⟩
end Go.Proofs.Ytgdhieffjflejaa

/-! L6C -/
namespace Go.Proofs.Ytgdhieffjflejaa
open Go.RowKit Go.Joins

theorem rk_at {w : World} {a : Option Addr} {zs : List Rk} (h : RowsAt w a 7 Rk.cs zs) (k : Nat) (hk : k < zs.length) :
  ∃ b off, a = some ⟨b, off, none⟩ ∧ b < w.heap.size ∧ ∀ wr, Below w.heap.size w wr → wr.cell? ⟨b, off + k * 7, none⟩ = some (.int .i64 zs[k].me) ∧ wr.cell? ⟨b, off + k * 7 + 1, none⟩ = some (.int .i64 zs[k].view) ∧ wr.cell? ⟨b, off + k * 7 + 2, none⟩ = some (.bool zs[k].live) ∧ wr.cell? ⟨b, off + k * 7 + 3, none⟩ = some (.int .i64 zs[k].nx) ∧ wr.cell? ⟨b, off + k * 7 + 4, none⟩ = some (.slice zs[k].ta zs[k].tk.length zs[k].tc) ∧ wr.cell? ⟨b, off + k * 7 + 5, none⟩ = some (.slice zs[k].ha zs[k].hd.length zs[k].hc) ∧ wr.cell? ⟨b, off + k * 7 + 6, none⟩ = some (.slice zs[k].da zs[k].dn.length zs[k].dc) := by
 obtain ⟨b, off, rfl, hb, hc⟩ := h k hk
 refine ⟨b, off, rfl, hb, fun wr hbel => ?_⟩
 have g : ∀ j, j < 7 → wr.cell? ⟨b, off + k * 7 + j, none⟩ = zs[k].cs[j]? := fun j hj => (hbel.cell (p := ⟨b, _, none⟩) hb).trans (hc j hj)
 exact ⟨g 0 (by decide), g 1 (by decide), g 2 (by decide), g 3 (by decide), g 4 (by decide), g 5 (by decide), g 6 (by decide)⟩
/-- What was said, copied, in a world. -/
def WorldCopied (w : World) (e : Ending) (w' : World) : Prop :=
 ∃ (bad : Int) (ar : Option Addr) (nr cr : Nat) (a : Option Addr) (c : Nat) (sd : List Mg), e = .returned (.agg #[.int .i64 bad, .slice ar nr cr, .slice a sd.length c]) ∧ Rob (Lo w.heap.size) (fun V => IsMs V (.slice a sd.length c) sd) w' ∧ MsFit sd ∧ sd.length ≤ 100 ∧ Below w.heap.size w w'

set_option maxRecDepth 100000 in
set_option maxHeartbeats 16000000 in
theorem l6Copy_c (T D : Nat) (u : Wd) (w : World) (h : u.ok w) (hf : u.fit T D) (hT : T ≤ 900000) (hD : D ≤ 900000) :
  Calls Try.prog 61 #[.agg #[.int .i64 u.bad, .slice u.ra u.rp.length u.rc, .slice u.sa u.sd.length u.sc]] w (WorldCopied w) := by
 have HCR := Lib.hid h.2.1
 have HFR := Lib.hid hf.rp
 have HC := Lib.hid h.2.2.2
 have MF := Lib.hid hf.ms
 have h4 : u.rp.length = 4 := hf.four
 have hsd : u.sd.length ≤ 100 := hf.sd
 obtain ⟨-, hlcr, hmxr, hrtr⟩ := h.1.bounds
 have HTR := Lib.hid hrtr
 obtain ⟨-, hlc, hmx, hrt⟩ := h.2.2.1.bounds
 have HT := Lib.hid hrt
 unfold maxLen at hmx hmxr
 have hrp : u.rp.length ≤ 4 := by omega
 clear h hf hrt hrtr h4
 go_enter Try.func61, Try.ntmps61
 go_upto_region 1 with fail
 obtain ⟨W, hW_, sW, x, z, kW⟩ := blocks2 w (.cells #[.int .i64 u.bad, .slice u.ra u.rp.length u.rc, .slice u.sa u.sd.length u.sc] 50) (.cells #[.int .i64 0, .slice none 0 0, .slice none 0 0] 50)
 rw [← hW_]
 clear hW_
 have hsW : w.heap.size + 2 ≤ W.heap.size := by omega
 clear sW
 have cx := cell_of_block x
 have fx := unfrozen_of_block x
 have lx := lt_of_block x
 go_upto_region 2 with fail
 obtain ⟨W2, hW_, sW2, v, k1_⟩ := blocks1 W (.cells #[.int .i64 u.bad, .slice none 0 0, .slice none 0 0] 50)
 rw [← hW_]
 clear hW_
 clear cx fx lx
 have lz_ := lt_of_block z
 replace x := carryB k1_ (lt_of_block x) x
 replace z := carryB k1_ lz_ z
 have K0 := below_next kW k1_
 have hgs : W.heap.size < W2.heap.size := by omega
 have hs0 := Nat.le_refl W2.heap.size
 clear k1_ lz_ kW sW2
 generalize W.heap.size = g at *
 go_wp2_with fail
 go_loopw [4] (fun i wr => ∃ (k : Nat) (aR : Option Addr) (cR : Nat) (rp' : List Rk), k ≤ u.rp.length ∧ i = .int .i64 k ∧ rp'.length = k ∧ wr.heap[w.heap.size]? = some (.cells #[.int .i64 u.bad, .slice u.ra u.rp.length u.rc, .slice u.sa u.sd.length u.sc] 50 (0, 0)) ∧ wr.heap[w.heap.size + 1]? = some (.cells #[.int .i64 0, .slice none 0 0, .slice none 0 0] 50 (0, 0)) ∧ wr.heap[g]? = some (.cells #[.int .i64 u.bad, .slice aR rp'.length cR, .slice none 0 0] 50 (0, 0)) ∧
   Row wr W2.heap.size 78 aR cR 7 Rk.cs rp' ∧ W2.heap.size ≤ wr.heap.size ∧ Below w.heap.size w wr) (fun i _ => u.rp.length - (intOf i).toNat)
 case atStart => exact ⟨0, none, 0, [], Nat.zero_le _, rfl, rfl, x, z, v, Row.nil _ _ _ _ _ _, hs0, K0⟩
 case round =>
  clear x z v K0 hs0
  obtain ⟨k, aR, cR, rp', hk, rfl, hl, x, z, v, hrow, hs, K⟩ := hrel
  have RW := Lib.hid hrow
  have HL := Lib.hid hl
  clear hrow hl
  by_cases hlt : k < u.rp.length
  ·
   have hk1 : (k : Int) < (u.rp.length : Int) := by omega
   have hk0 : (0 : Int) ≤ (k : Int) := by omega
   obtain ⟨b1, o1, ea, hl1, hd0⟩ := rk_at HTR.out k hlt
   obtain ⟨d0, d1, d2, d3, d4, d5, d6⟩ := hd0 wr K
   have SU := Lib.hid (Rk.ok.below (HCR.out u.rp[k] (List.getElem_mem hlt)) K)
   have UF := Lib.hid (HFR.out u.rp[k] (List.getElem_mem hlt))
   clear hd0
   generalize u.rp[k] = r at *
   have EA := Lib.hid ea
   rw [ea] at x
   clear ea
   have cx := cell_of_block x
   have fx := unfrozen_of_block x
   have lx := lt_of_block x
   have cv := cell_of_block v
   have fv := unfrozen_of_block v
   have lv := lt_of_block v
   go_upto_region 5 with fail
   have hBW := hs
   have KW := Lib.hid K
   have hl120 : rp'.length ≤ 4 := by have := HL.out; omega
   have hx1 : w.heap.size < W2.heap.size := by omega
   have hb1 : b1 < W2.heap.size := by omega
   have hne1 : ¬ (w.heap.size = g) := by omega
   have hne2 : ¬ (g = w.heap.size) := by omega
   refine wp_region_L (fun w' => ((∀ b o, b < W2.heap.size → (w').cell? ⟨b, o, none⟩ = (wr).cell? ⟨b, o, none⟩) ∧ Below (W2.heap.size) (wr) (w'))) [11] (by kernel_rfl) ?_
   obtain ⟨wr_0, hw_, kw_⟩ : ∃ wd, wd = wr.drew ∧ Below wr.heap.size wr wd := ⟨_, rfl, Below.drew (Below.refl _ _)⟩
   rw [← hw_]
   clear hw_
   have hS := KeptB.of (kw_.mono hBW)
   replace SU := Lib.hid (SU.out.below kw_)
   replace RW := Lib.hid (RW.out.below kw_)
   clear kw_
   refine wpAnyL_take (i := 0) (oi := _) (v := ?_) (by (simp only [List.getElem?_toArray]; rfl)) (by kernel_rfl) (by kernel_rfl) (by kernel_rfl) (by kernel_rfl) (by exact fun _ _ _ h => h) (Or.inl ⟨by rfl, ?_⟩) (by assumption) ?_
   rotate_left
   ·
    intro wS hSw
    go_simp
    all_goals first | with_reducible rfl | rw [if_neg (by omega)]
   simp only [Act.put, List.setIfInBounds_toArray, List.set]
   refine wpAnyL_take (i := 1) (oi := _) (v := ?_) (by (simp only [List.getElem?_toArray]; rfl)) (by kernel_rfl) (by kernel_rfl) (by kernel_rfl) (by kernel_rfl) (by exact fun _ _ _ h => h) (Or.inl ⟨by rfl, ?_⟩) (by assumption) ?_
   rotate_left
   ·
    intro wS hSw
    go_simp
    all_goals first | with_reducible rfl | rw [if_neg (by omega)]
   simp only [Act.put, List.setIfInBounds_toArray, List.set]
   refine wpAnyL_take (i := 2) (oi := _) (v := ?_) (by (simp only [List.getElem?_toArray]; rfl)) (by kernel_rfl) (by kernel_rfl) (by kernel_rfl) (by kernel_rfl) (by exact fun _ _ _ h => h) (Or.inl ⟨by rfl, ?_⟩) (by assumption) ?_
   rotate_left
   ·
    intro wS hSw
    go_simp
    all_goals first | with_reducible rfl | rw [if_neg (by omega)]
   simp only [Act.put, List.setIfInBounds_toArray, List.set]
   refine wpAnyL_take (i := 3) (oi := _) (v := ?_) (by (simp only [List.getElem?_toArray]; rfl)) (by kernel_rfl) (by kernel_rfl) (by kernel_rfl) (by kernel_rfl) (by exact fun _ _ _ h => h) (Or.inl ⟨by rfl, ?_⟩) (by assumption) ?_
   rotate_left
   ·
    intro wS hSw
    go_simp
    all_goals first | with_reducible rfl | rw [if_neg (by omega)]
   simp only [Act.put, List.setIfInBounds_toArray, List.set]
   refine wpAnyL_take (i := 4) (oi := _) (v := ?_) (by (simp only [List.getElem?_toArray]; rfl)) (by kernel_rfl) (by kernel_rfl) (by kernel_rfl) (by kernel_rfl) (by exact fun _ _ _ h => h) (Or.inl ⟨by rfl, ?_⟩) (by assumption) ?_
   rotate_left
   ·
    intro wS hSw
    go_simp
    all_goals first | with_reducible rfl | rw [if_neg (by omega)]
   simp only [Act.put, List.setIfInBounds_toArray, List.set]
   refine wpAnyL_take (i := 5) (oi := _) (v := ?_) (by (simp only [List.getElem?_toArray]; rfl)) (by kernel_rfl) (by kernel_rfl) (by kernel_rfl) (by kernel_rfl) (by exact fun _ _ _ h => h) (Or.inl ⟨by rfl, ?_⟩) (by assumption) ?_
   rotate_left
   ·
    intro wS hSw
    go_simp
    all_goals first | with_reducible rfl | rw [if_neg (by omega)]
   simp only [Act.put, List.setIfInBounds_toArray, List.set]
   refine wpAnyL_take (i := 6) (oi := _) (v := ?_) (by (simp only [List.getElem?_toArray]; rfl)) (by kernel_rfl) (by kernel_rfl) (by kernel_rfl) (by kernel_rfl) (by exact fun _ _ _ h => h) (Or.inl ⟨by rfl, ?_⟩) (by assumption) ?_
   rotate_left
   ·
    intro wS hSw
    go_simp
    all_goals first | with_reducible rfl | rw [if_neg (by omega)]
   simp only [Act.put, List.setIfInBounds_toArray, List.set]
   refine wpAnyL_ready (rs := [7]) (by kernel_rfl) (by simp) ?_
   refine AllReadyL.cons (o := _) (by (simp only [List.getElem?_toArray]; rfl)) (fun K hK => ?_) AllReadyL.nil
   go_simp
   refine (l5Copy_w T D r wr_0 SU.out UF.out hT hD).mono ?_
   rintro e wr_1 ⟨r', rfl, kw_⟩
   have hRK : Below W2.heap.size wr wr_1 := hS.2.trans (kw_.mono (Nat.le_trans hBW hS.2.size))
   clear hS
   have hS := KeptB.of hRK
   clear hRK
   replace SU := Lib.hid (SU.out.below kw_)
   replace RW := Lib.hid (RW.out.below kw_)
   clear kw_
   refine hK.out _ _ (fun _ => hS) ?_
   clear hK K
   try simp only [Act.put, List.setIfInBounds_toArray, List.set]
   refine wpAnyL_ready (rs := [8]) (by kernel_rfl) (by simp) ?_
   refine AllReadyL.cons (o := _) (by (simp only [List.getElem?_toArray]; rfl)) (fun K hK => ?_) AllReadyL.nil
   go_simp
   obtain ⟨wr_2, hw_, sw_, hv_, kw_⟩ := blocks1 wr_1 (.cells #[.int .i64 r'.me, .int .i64 r'.view, .bool r'.live, .int .i64 r'.nx, .slice r'.ta r'.tk.length r'.tc, .slice r'.ha r'.hd.length r'.hc, .slice r'.da r'.dn.length r'.dc] 78)
   rw [← hw_]
   clear hw_ sw_
   have hRK : Below W2.heap.size wr wr_2 := hS.2.trans (kw_.mono (Nat.le_trans hBW hS.2.size))
   clear hS
   have hS := KeptB.of hRK
   clear hRK
   replace SU := Lib.hid (SU.out.below kw_)
   replace RW := Lib.hid (RW.out.below kw_)
   clear kw_
   have RV := Lib.hid (show RowsAt wr_2 (some ⟨wr_1.heap.size, 0, none⟩) 7 Rk.cs [r'] from rows_of_block (R := Rk.cs) (zs := [r']) (fun _ => rfl) hv_)
   clear hv_
   refine hK.out _ _ (fun _ => hS) ?_
   clear hK K
   try simp only [Act.put, List.setIfInBounds_toArray, List.set]
   refine wpAnyL_ready (rs := [9]) (by kernel_rfl) (by simp) ?_
   refine AllReadyL.cons (o := _) (by (simp only [List.getElem?_toArray]; rfl)) (fun K hK => ?_) AllReadyL.nil
   refine step_append_elm (by rfl) (.tmp 17) (.tmp 24) (by rfl) (rp'.length + 1) elmRk (by rfl) (by rfl) RW.out (fun z _ => rk_one z) RV.out (by rfl) (by rfl) (by rfl) (by simp only [maxLen]; omega) (by omega) (Nat.le_trans hBW hS.2.size) ?_
   intro a3 c3 wr_3 q_
   have hrb_ : ∀ g, rowBlk _ _ = some g → W2.heap.size ≤ g := fun g hg => (RW.out.blk hg).1
   have hRK : Below W2.heap.size wr wr_3 := hS.2.trans (q_.below (B' := W2.heap.size) (Nat.le_trans hBW hS.2.size) hrb_)
   clear hS
   have hS := KeptB.of hRK
   clear hRK
   have RT2 := Lib.hid (q_.row)
   clear q_ hrb_
   refine hK.out _ _ (fun _ => hS) ?_
   clear hK K
   try simp only [Act.put, List.setIfInBounds_toArray, List.set]
   refine wpAnyL_take (i := 10) (oi := _) (v := ?_) (by (simp only [List.getElem?_toArray]; rfl)) (by kernel_rfl) (by kernel_rfl) (by kernel_rfl) (by kernel_rfl) (by exact fun _ _ _ h => h) (Or.inl ⟨by rfl, ?_⟩) (by assumption) ?_
   rotate_left
   ·
    intro wS hSw
    go_simp
    all_goals first | with_reducible rfl | rw [if_neg (by omega)]
   simp only [Act.put, List.setIfInBounds_toArray, List.set]
   refine wpAnyL_ready (rs := [11]) (by kernel_rfl) (by simp) ?_
   refine AllReadyL.cons (o := _) (by (simp only [List.getElem?_toArray]; rfl)) (fun K hK => ?_) AllReadyL.nil
   have vq_ := carryB hS.2 (by omega) v
   have xq_ := carryB hS.2 (by omega) x
   have zq_ := carryB hS.2 (by omega) z
   have cq_ := cell_of_block vq_
   have fq_ := unfrozen_of_block vq_
   have lq_ := lt_of_block vq_
   go_simp
   obtain ⟨V, hV_, sV, vV, oV, kV⟩ := stored1 wr_3 g 1 (.slice a3 (rp'.length + 1) c3) vq_
   rw [← hV_]
   clear hV_
   have xV := (oV _ (by omega)).trans xq_
   have zV := (oV _ (by omega)).trans zq_
   have RV2 := Lib.hid (RT2.out.later sV oV (by omega))
   have KV := Lib.hid (KW.out.trans ((hS.2.mono (by omega)).trans (kV.mono (by omega))))
   have hsV : W2.heap.size ≤ V.heap.size := by have := hS.2.size; omega
   clear cq_ fq_ lq_ kV hS RT2 vq_ xq_ zq_
   refine hK.out _ _ (fun h => absurd h (by decide)) ?_
   clear hK K
   try simp only [Act.put, List.setIfInBounds_toArray, List.set]
   refine wpAnyL_done (by kernel_rfl) ?_ _
   clear cx fx lx cv fv lv
   clear d0 d1 d2 d3 d4 d5 d6 x v
   rw [← EA.out] at xV
   have X_ := Lib.hid xV
   have Z_ := Lib.hid zV
   have V_ := Lib.hid vV
   clear xV zV vV z
   go_wp2_with fail
   go_roundw
   case rel => exact ⟨k + 1, a3, c3, rp' ++ [r'], by omega, by go_num, by have := HL.out; simp; omega, X_.out, Z_.out, by simpa using V_.out, RV2.out, by omega, KV.out⟩
   case measure => simp [intOf]; omega
  ·
   have hkf : ¬ ((k : Int) < (u.rp.length : Int)) := by omega
   have hs0 := hs
   have K0 := K
   clear K hs
   generalize rp'.length = nR at *
   have cx := cell_of_block x
   have fx := unfrozen_of_block x
   have lx := lt_of_block x
   go_wp2_with fail
   clear cx fx lx
   go_loopw [5] (fun i wr => ∃ (k : Nat) (a : Option Addr) (cc : Nat) (sd : List Mg), k ≤ u.sd.length ∧ i = .int .i64 k ∧ sd.length = k ∧ wr.heap[w.heap.size]? = some (.cells #[.int .i64 u.bad, .slice u.ra u.rp.length u.rc, .slice u.sa u.sd.length u.sc] 50 (0, 0)) ∧ wr.heap[w.heap.size + 1]? = some (.cells #[.int .i64 0, .slice none 0 0, .slice none 0 0] 50 (0, 0)) ∧ wr.heap[g]? = some (.cells #[.int .i64 u.bad, .slice aR nR cR, .slice a sd.length cc] 50 (0, 0)) ∧
     Row wr W2.heap.size 34 a cc 11 Mg.cs sd ∧ Rob (Ow W2.heap.size a cc) (fun V => ∀ m ∈ sd, m.ok V) wr ∧ MsFit sd ∧ W2.heap.size ≤ wr.heap.size ∧ Below w.heap.size w wr) (fun i _ => u.sd.length - (intOf i).toNat)
   case atStart => exact ⟨0, none, 0, [], Nat.zero_le _, rfl, rfl, x, z, v, Row.nil _ _ _ _ _ _, (fun V hV m hm => nomatch hm), (fun m hm => nomatch hm), hs0, K0⟩
   case round =>
    clear x z v K0 hs0 RW HL hlt hkf hk
    obtain ⟨k, a, cc, sd, hk, rfl, hl, x, z, v, hrow, hso, hmf, hs, K⟩ := hrel
    have RW := Lib.hid hrow
    have SO := Lib.hid hso
    have MF2 := Lib.hid hmf
    have HL := Lib.hid hl
    clear hrow hso hmf hl
    by_cases hlt : k < u.sd.length
    ·
     have hk1 : (k : Int) < (u.sd.length : Int) := by omega
     have hk0 : (0 : Int) ≤ (k : Int) := by omega
     obtain ⟨b1, o1, ea, hl1, hd0⟩ := mg_at HT.out k hlt
     obtain ⟨d0, d1, d2, d3, d4, d5, d6, d7, d8, d9, d10⟩ := hd0 wr K
     have SX := (HC.out u.sd[k] (List.getElem_mem hlt)).below K
     have UF := Lib.hid (MF.out u.sd[k] (List.getElem_mem hlt))
     clear hd0
     generalize u.sd[k] = u_ at *
     have SU := Lib.hid SX
     obtain ⟨⟨ax, qx, ex, -⟩, ⟨bx, dx, fx, -⟩, -⟩ := SX
     rw [ex] at d9
     rw [fx] at d10
     have EX := Lib.hid (And.intro ex fx)
     clear ex fx
     have EA := Lib.hid ea
     rw [ea] at x
     clear ea
     have cx := cell_of_block x
     have fx := unfrozen_of_block x
     have lx := lt_of_block x
     have cv := cell_of_block v
     have fv := unfrozen_of_block v
     have lv := lt_of_block v
     go_upto_region 9 with fail
     have hBW := hs
     have KW := Lib.hid K
     have hl120 : sd.length ≤ 100 := by have := HL.out; omega
     have hx1 : w.heap.size < W2.heap.size := by omega
     have hb1 : b1 < W2.heap.size := by omega
     have hne1 : ¬ (w.heap.size = g) := by omega
     have hne2 : ¬ (g = w.heap.size) := by omega
     refine wp_region_L (fun w' => ((∀ b o, b < W2.heap.size → (w').cell? ⟨b, o, none⟩ = (wr).cell? ⟨b, o, none⟩) ∧ Below (W2.heap.size) (wr) (w'))) [11] (by kernel_rfl) ?_
     obtain ⟨wr_0, hw_, kw_⟩ : ∃ wd, wd = wr.drew ∧ Below wr.heap.size wr wd := ⟨_, rfl, Below.drew (Below.refl _ _)⟩
     rw [← hw_]
     clear hw_
     have hS := KeptB.of (kw_.mono hBW)
     replace SU := Lib.hid (SU.out.below kw_)
     replace RW := Lib.hid (RW.out.below kw_)
     replace SO := Lib.hid (SO.out.below kw_)
     clear kw_
     refine wpAnyL_take (i := 0) (oi := _) (v := ?_) (by (simp only [List.getElem?_toArray]; rfl)) (by kernel_rfl) (by kernel_rfl) (by kernel_rfl) (by kernel_rfl) (by exact fun _ _ _ h => h) (Or.inl ⟨by rfl, ?_⟩) (by assumption) ?_
     rotate_left
     ·
      intro wS hSw
      go_simp
      all_goals first | with_reducible rfl | rw [if_neg (by omega)]
     simp only [Act.put, List.setIfInBounds_toArray, List.set]
     refine wpAnyL_take (i := 1) (oi := _) (v := ?_) (by (simp only [List.getElem?_toArray]; rfl)) (by kernel_rfl) (by kernel_rfl) (by kernel_rfl) (by kernel_rfl) (by exact fun _ _ _ h => h) (Or.inl ⟨by rfl, ?_⟩) (by assumption) ?_
     rotate_left
     ·
      intro wS hSw
      go_simp
      all_goals first | with_reducible rfl | rw [if_neg (by omega)]
     simp only [Act.put, List.setIfInBounds_toArray, List.set]
     refine wpAnyL_take (i := 2) (oi := _) (v := ?_) (by (simp only [List.getElem?_toArray]; rfl)) (by kernel_rfl) (by kernel_rfl) (by kernel_rfl) (by kernel_rfl) (by exact fun _ _ _ h => h) (Or.inl ⟨by rfl, ?_⟩) (by assumption) ?_
     rotate_left
     ·
      intro wS hSw
      go_simp
      all_goals first | with_reducible rfl | rw [if_neg (by omega)]
     simp only [Act.put, List.setIfInBounds_toArray, List.set]
     refine wpAnyL_take (i := 3) (oi := _) (v := ?_) (by (simp only [List.getElem?_toArray]; rfl)) (by kernel_rfl) (by kernel_rfl) (by kernel_rfl) (by kernel_rfl) (by exact fun _ _ _ h => h) (Or.inl ⟨by rfl, ?_⟩) (by assumption) ?_
     rotate_left
     ·
      intro wS hSw
      go_simp
      all_goals first | with_reducible rfl | rw [if_neg (by omega)]
     simp only [Act.put, List.setIfInBounds_toArray, List.set]
     refine wpAnyL_take (i := 4) (oi := _) (v := ?_) (by (simp only [List.getElem?_toArray]; rfl)) (by kernel_rfl) (by kernel_rfl) (by kernel_rfl) (by kernel_rfl) (by exact fun _ _ _ h => h) (Or.inl ⟨by rfl, ?_⟩) (by assumption) ?_
     rotate_left
     ·
      intro wS hSw
      go_simp
      all_goals first | with_reducible rfl | rw [if_neg (by omega)]
     simp only [Act.put, List.setIfInBounds_toArray, List.set]
     refine wpAnyL_take (i := 5) (oi := _) (v := ?_) (by (simp only [List.getElem?_toArray]; rfl)) (by kernel_rfl) (by kernel_rfl) (by kernel_rfl) (by kernel_rfl) (by exact fun _ _ _ h => h) (Or.inl ⟨by rfl, ?_⟩) (by assumption) ?_
     rotate_left
     ·
      intro wS hSw
      go_simp
      all_goals first | with_reducible rfl | rw [if_neg (by omega)]
     simp only [Act.put, List.setIfInBounds_toArray, List.set]
     refine wpAnyL_take (i := 6) (oi := _) (v := ?_) (by (simp only [List.getElem?_toArray]; rfl)) (by kernel_rfl) (by kernel_rfl) (by kernel_rfl) (by kernel_rfl) (by exact fun _ _ _ h => h) (Or.inl ⟨by rfl, ?_⟩) (by assumption) ?_
     rotate_left
     ·
      intro wS hSw
      go_simp
      all_goals first | with_reducible rfl | rw [if_neg (by omega)]
     simp only [Act.put, List.setIfInBounds_toArray, List.set]
     refine wpAnyL_ready (rs := [7]) (by kernel_rfl) (by simp) ?_
     refine AllReadyL.cons (o := _) (by (simp only [List.getElem?_toArray]; rfl)) (fun K hK => ?_) AllReadyL.nil
     have hq_ : W2.heap.size ≤ wr_0.heap.size := Nat.le_trans hBW hS.2.size
     have hrl_ : ∀ g, rowBlk a cc = some g → g < wr_0.heap.size := fun g hg => (RW.out.blk hg).2
     go_simp
     refine (l3Copy_c _ u_ wr_0 (isMg_sl EX.out.1 EX.out.2 SU.out) UF.out).mono ?_
     rintro e wr_1 ⟨n1, n2, n3, n4, ys, rfl, hN_, hsy_, kw_⟩
     have hRK : Below W2.heap.size wr wr_1 := hS.2.trans (kw_.mono (Nat.le_trans hBW hS.2.size))
     clear hS
     have hS := KeptB.of hRK
     clear hRK
     replace SU := Lib.hid (SU.out.below kw_)
     replace RW := Lib.hid (RW.out.below kw_)
     replace SO := Lib.hid (SO.out.below kw_)
     clear kw_
     have NL := Lib.hid (hN_.ow hq_ hrl_)
     have HSY := Lib.hid hsy_
     clear hN_ hsy_ hq_ hrl_
     refine hK.out _ _ (fun _ => hS) ?_
     clear hK K
     try simp only [Act.put, List.setIfInBounds_toArray, List.set]
     refine wpAnyL_ready (rs := [8]) (by kernel_rfl) (by simp) ?_
     refine AllReadyL.cons (o := _) (by (simp only [List.getElem?_toArray]; rfl)) (fun K hK => ?_) AllReadyL.nil
     go_simp
     obtain ⟨wr_2, hw_, sw_, hv_, kw_⟩ := blocks1 wr_1 (.cells #[.int .i64 u_.k, .int .i64 u_.f, .int .i64 u_.v, .int .i64 u_.s, .int .i64 u_.r.c, .int .i64 u_.r.n, .int .i64 u_.r.o, .int .i64 u_.r.x, .int .i64 u_.r.y, .slice n1 u_.cl.length n2, .slice n3 u_.vs.length n4] 34)
     rw [← hw_]
     clear hw_ sw_
     have hRK : Below W2.heap.size wr wr_2 := hS.2.trans (kw_.mono (Nat.le_trans hBW hS.2.size))
     clear hS
     have hS := KeptB.of hRK
     clear hRK
     replace SU := Lib.hid (SU.out.below kw_)
     replace RW := Lib.hid (RW.out.below kw_)
     replace SO := Lib.hid (SO.out.below kw_)
     replace NL := Lib.hid (NL.out.below kw_)
     clear kw_
     have RV := Lib.hid (show RowsAt wr_2 (some ⟨wr_1.heap.size, 0, none⟩) 11 Mg.cs [u_.wth n1 n2 n3 n4 ys] from rows_of_block (R := Mg.cs) (zs := [u_.wth n1 n2 n3 n4 ys]) (fun _ => rfl) hv_)
     clear hv_
     refine hK.out _ _ (fun _ => hS) ?_
     clear hK K
     try simp only [Act.put, List.setIfInBounds_toArray, List.set]
     refine wpAnyL_ready (rs := [9]) (by kernel_rfl) (by simp) ?_
     refine AllReadyL.cons (o := _) (by (simp only [List.getElem?_toArray]; rfl)) (fun K hK => ?_) AllReadyL.nil
     refine step_append_elm (by rfl) (.tmp 35) (.tmp 42) (by rfl) (sd.length + 1) elmMg (by rfl) (by rfl) RW.out (fun z hz => List.mem_singleton.1 hz ▸ mg_one NL.out.out) RV.out (by rfl) (by rfl) (by rfl) (by simp only [maxLen]; omega) (by omega) (Nat.le_trans hBW hS.2.size) ?_
     intro a3 c3 wr_3 q_
     have hrb_ : ∀ g, rowBlk _ _ = some g → W2.heap.size ≤ g := fun g hg => (RW.out.blk hg).1
     have hRK : Below W2.heap.size wr wr_3 := hS.2.trans (q_.below (B' := W2.heap.size) (Nat.le_trans hBW hS.2.size) hrb_)
     clear hS
     have hS := KeptB.of hRK
     clear hRK
     have RT2 := Lib.hid (q_.row)
     have SO2 := Lib.hid (((SO.out.and NL.out).imp (G := fun V => ∀ m' ∈ sd ++ [u_.wth n1 n2 n3 n4 ys], m'.ok V) (fun V h m' hm => (List.mem_append.1 hm).elim (h.1 m') (fun h' => List.mem_singleton.1 h' ▸ h.2))).appended q_)
     clear q_ hrb_
     refine hK.out _ _ (fun _ => hS) ?_
     clear hK K
     try simp only [Act.put, List.setIfInBounds_toArray, List.set]
     refine wpAnyL_take (i := 10) (oi := _) (v := ?_) (by (simp only [List.getElem?_toArray]; rfl)) (by kernel_rfl) (by kernel_rfl) (by kernel_rfl) (by kernel_rfl) (by exact fun _ _ _ h => h) (Or.inl ⟨by rfl, ?_⟩) (by assumption) ?_
     rotate_left
     ·
      intro wS hSw
      go_simp
      all_goals first | with_reducible rfl | rw [if_neg (by omega)]
     simp only [Act.put, List.setIfInBounds_toArray, List.set]
     refine wpAnyL_ready (rs := [11]) (by kernel_rfl) (by simp) ?_
     refine AllReadyL.cons (o := _) (by (simp only [List.getElem?_toArray]; rfl)) (fun K hK => ?_) AllReadyL.nil
     have vq_ := carryB hS.2 (by omega) v
     have xq_ := carryB hS.2 (by omega) x
     have zq_ := carryB hS.2 (by omega) z
     have cq_ := cell_of_block vq_
     have fq_ := unfrozen_of_block vq_
     have lq_ := lt_of_block vq_
     go_simp
     obtain ⟨V, hV_, sV, vV, oV, kV⟩ := stored1 wr_3 g 2 (.slice a3 (sd.length + 1) c3) vq_
     rw [← hV_]
     clear hV_
     have xV := (oV _ (by omega)).trans xq_
     have zV := (oV _ (by omega)).trans zq_
     have RV2 := Lib.hid (RT2.out.later sV oV (by omega))
     have SOV := Lib.hid (SO2.out.stored sV oV (.inl (by show _ < _; omega)))
     have KV := Lib.hid (KW.out.trans ((hS.2.mono (by omega)).trans (kV.mono (by omega))))
     have hsV : W2.heap.size ≤ V.heap.size := by have := hS.2.size; omega
     clear cq_ fq_ lq_ kV hS RT2 vq_ xq_ zq_
     refine hK.out _ _ (fun h => absurd h (by decide)) ?_
     clear hK K
     try simp only [Act.put, List.setIfInBounds_toArray, List.set]
     refine wpAnyL_done (by kernel_rfl) ?_ _
     clear cx fx lx cv fv lv
     clear d0 d1 d2 d3 d4 d5 d6 d7 d8 d9 d10 x v
     rw [← EA.out] at xV
     have X_ := Lib.hid xV
     have Z_ := Lib.hid zV
     have V_ := Lib.hid vV
     have FN := Lib.hid (fit_snoc MF2.out (fit_wth (a := n1) (c := n2) (b := n3) (d := n4) UF.out HSY.out))
     clear xV zV vV z
     go_wp2_with fail
     go_roundw
     case rel => exact ⟨k + 1, a3, c3, sd ++ [u_.wth n1 n2 n3 n4 ys], by omega, by go_num, by have := HL.out; simp; omega, X_.out, Z_.out, by simpa using V_.out, RV2.out, SOV.out, FN.out, by omega, KV.out⟩
     case measure => simp [intOf]; omega
    ·
     have hkf : ¬ ((k : Int) < (u.sd.length : Int)) := by omega
     have hl120 : sd.length ≤ 100 := by have := HL.out; omega
     have hne1 : ¬ (w.heap.size + 1 = g) := by omega
     have hne2 : ¬ (g = w.heap.size + 1) := by omega
     have cx := cell_of_block x
     have fx := unfrozen_of_block x
     have lx := lt_of_block x
     have cz := cell_of_block z
     have fz := unfrozen_of_block z
     have lz := lt_of_block z
     have cv := cell_of_block v
     have fv := unfrozen_of_block v
     have lv := lt_of_block v
     go_wp2_with fail
     refine bodyPost_ret (v := .agg #[.int .i64 u.bad, .slice aR nR cR, .slice a sd.length cc]) (by simp [results, Try.results61, go_sem, cz]) rfl ?_
     refine ⟨u.bad, aR, nR, cR, a, cc, sd, rfl, fun V' hV' => ⟨?_, ?_⟩, MF2.out, hl120, (by repeat' (first | with_reducible exact Below.refl _ _ | with_reducible assumption | with_reducible refine Below.alloc ?_ ?_ _ | with_reducible refine Below.drew ?_ | with_reducible refine Below.setCell ?_ ?_ _ | omega | (simp; omega) | (simp; done)))⟩
     ·
      refine Rob.ofLo (B := W2.heap.size) (F := fun V' => IsSl V' (.slice a sd.length cc) 11 Mg.cs sd) ?_ (fun b hb => by have h : b < w.heap.size := hb; omega) V' hV'
      have h1 : Rob (Lo W2.heap.size) (fun V' => IsSl V' (.slice a sd.length cc) 11 Mg.cs sd) wr := RW.out.rob eleven_len
      repeat' (first | with_reducible exact h1 | refine Rob.set ?_ (by simp only; omega) _)
     ·
      refine Rob.ofLo (B := W2.heap.size) (F := fun V' => ∀ m ∈ sd, m.ok V') ?_ (fun b hb => by have h : b < w.heap.size := hb; omega) V' hV'
      have h1 : Rob (Lo W2.heap.size) (fun V' => ∀ m ∈ sd, m.ok V') wr := SO.out.unow
      repeat' (first | with_reducible exact h1 | refine Rob.set ?_ (by simp only; omega) _)
end Go.Proofs.Ytgdhieffjflejaa

/-! L6D -/
namespace Go.Proofs.Ytgdhieffjflejaa
open Go.RowKit Go.Joins

theorem Mg.ok.slices {w : World} {m : Mg} (h : m.ok w) : ∃ (a : Option Addr) (c : Nat) (b : Option Addr) (d : Nat), m.vc = .slice a m.cl.length c ∧ m.vv = .slice b m.vs.length d := by
 obtain ⟨⟨a, c, e, -⟩, ⟨b, d, f, -⟩, -⟩ := h
 exact ⟨a, c, b, d, e, f⟩

set_option maxRecDepth 100000 in
set_option maxHeartbeats 16000000 in
theorem l6Do_c (X : Nat → Prop) (T D : Nat) (u : Wd) (k pt tw : Int) (m : Mg) (a b : Option Addr) (c d : Nat) (w : World) (h : Rob X u.ok w) (hf : u.fit T D) (hv1 : m.vc = .slice a m.cl.length c) (hv2 : m.vv = .slice b m.vs.length d) (hmo : m.ok w) (hmf : m.fit) (hX : ∀ b, X b → b < w.heap.size) (hT : T ≤ 900) (hD : D ≤ 900000) :
  Calls Try.prog 78 #[.agg #[.int .i64 u.bad, .slice u.ra u.rp.length u.rc, .slice u.sa u.sd.length u.sc], .agg #[.int .i64 k, .int .i64 pt, .int .i64 tw, .int .i64 m.k, .int .i64 m.f, .int .i64 m.v, .int .i64 m.s, .int .i64 m.r.c, .int .i64 m.r.n, .int .i64 m.r.o, .int .i64 m.r.x, .int .i64 m.r.y, .slice a m.cl.length c, .slice b m.vs.length d]] w (WorldSays X (T + 5) (D + (T + 5)) w) := by
 have HO := Lib.hid h
 have HF := Lib.hid hf
 have MV := Lib.hid (And.intro hv1 hv2)
 have MOX := Lib.hid (fun (V : World) (k : Below w.heap.size w V) => hmo.below k)
 have HMF := Lib.hid hmf
 have HSX := Lib.hid (fun (V : World) (k : Below w.heap.size w V) => (h.out.below k))
 have hsl : u.sd.length ≤ 100 := hf.sd
 obtain ⟨-, hlc, hmx, hrt⟩ := h.out.2.2.1.bounds
 have HT := Lib.hid hrt
 obtain ⟨-, hlcr, hmxr, hrtr⟩ := h.out.1.bounds
 have HTR := Lib.hid hrtr
 have H4 := Lib.hid hf.four
 unfold maxLen at hmx hmxr
 clear h hf hv1 hv2 hmo hmf hrt hrtr
 go_enter Try.func78, Try.ntmps78
 go_upto_region 1 with fail
 obtain ⟨W, hW_, sW, x, y, z, kW⟩ := blocks3 w (.cells #[.int .i64 u.bad, .slice u.ra u.rp.length u.rc, .slice u.sa u.sd.length u.sc] 50) (.cells #[.int .i64 k, .int .i64 pt, .int .i64 tw, .int .i64 m.k, .int .i64 m.f, .int .i64 m.v, .int .i64 m.s, .int .i64 m.r.c, .int .i64 m.r.n, .int .i64 m.r.o, .int .i64 m.r.x, .int .i64 m.r.y, .slice a m.cl.length c, .slice b m.vs.length d] 112) (.cells #[.int .i64 0, .slice none 0 0, .slice none 0 0] 50)
 rw [← hW_]
 clear hW_
 have hsW : w.heap.size + 3 ≤ W.heap.size := by omega
 obtain ⟨X1, hlt, hin, hsub, hbx⟩ : ∃ X1 : Nat → Prop, (∀ b, X1 b → b < W.heap.size) ∧ (∀ b, w.heap.size ≤ b → b < W.heap.size → X1 b) ∧ (∀ b, X b → X1 b) ∧ ∀ (F : World → Prop) (V : World), Below w.heap.size w V → Rob X F w → Rob X1 F V :=
  ⟨Bx X w.heap.size W.heap.size, Bx.lt hX (by omega), fun b h1 h2 => .inr ⟨h1, h2⟩, fun b hb => .inl hb, fun F V hV hF => hF.box hV _⟩
 clear sW
 have K := kW
 have hs := Nat.le_refl W.heap.size
 clear kW
 obtain ⟨qi, hqi⟩ : ∃ q, inB tw 0 3 = q := ⟨_, rfl⟩
 obtain ⟨qb, hqb⟩ : ∃ q, (tw != u.bad) = q := ⟨_, rfl⟩
 obtain ⟨qh, hqh⟩ : ∃ q, (qi && qb) = q := ⟨_, rfl⟩
 have QI := Lib.hid hqi
 have QH := Lib.hid hqh
 clear hqh
 go_cut [6] (fun s6 wx => s6 = .bool qh ∧ wx = W)
 case first =>
  have cx := cell_of_block x
  have fx := unfrozen_of_block x
  have lx := lt_of_block x
  have cy := cell_of_block y
  have fy := unfrozen_of_block y
  have ly := lt_of_block y
  cases qi
  ·
   go_wp2_with (go_at_call 42; refine (l1In_c _ _ _ _).mono ?_; rintro e w' ⟨rfl, rfl⟩)
   go_meet
   exact ⟨by rw [← QH.out]; rfl, rfl⟩
  ·
   cases qb
   all_goals
    go_wp2_with (go_at_call 42; refine (l1In_c _ _ _ _).mono ?_; rintro e w' ⟨rfl, rfl⟩)
    go_meet
    exact ⟨by rw [← QH.out]; rfl, rfl⟩
 case rest =>
  obtain ⟨rfl, hwc⟩ := hcut
  rw [hwc]
  clear hwc hqi hqb
  obtain ⟨p1, hp1⟩ : ∃ q, (k == 1) = q := ⟨_, rfl⟩
  obtain ⟨p2, hp2⟩ : ∃ q, (k == 2) = q := ⟨_, rfl⟩
  obtain ⟨p3, hp3⟩ : ∃ q, (k == 3) = q := ⟨_, rfl⟩
  obtain ⟨p4, hp4⟩ : ∃ q, (k == 4) = q := ⟨_, rfl⟩
  cases p1 with
  | true =>
   have cx := cell_of_block x
   have fx := unfrozen_of_block x
   have lx := lt_of_block x
   have cy := cell_of_block y
   have fy := unfrozen_of_block y
   have ly := lt_of_block y
   have cz := cell_of_block z
   have fz := unfrozen_of_block z
   have lz := lt_of_block z
   go_upto_region 5 with fail
   obtain ⟨V1, hV_, sV1, l, k1_⟩ := blocks1 W (.cells #[.int .i64 1, .int .i64 0, .int .i64 0, .int .i64 0, .int .i64 m.r.c, .int .i64 m.r.n, .int .i64 m.r.o, .int .i64 m.r.x, .int .i64 m.r.y, .slice none 0 0, .slice none 0 0] 34)
   rw [← hV_]
   clear hV_ sV1
   clear cx fx lx cy fy ly cz fz lz
   have lx_ := lt_of_block x
   have ly_ := lt_of_block y
   have lz_ := lt_of_block z
   replace x := carryB k1_ lx_ x
   replace y := carryB k1_ ly_ y
   replace z := carryB k1_ lz_ z
   replace K := below_next K k1_
   replace hs := Nat.le_trans hs k1_.size
   clear k1_ lx_ ly_ lz_
   have cx := cell_of_block x
   have fx := unfrozen_of_block x
   have lx := lt_of_block x
   have cy := cell_of_block y
   have fy := unfrozen_of_block y
   have ly := lt_of_block y
   have cz := cell_of_block z
   have fz := unfrozen_of_block z
   have lz := lt_of_block z
   have cl := cell_of_block l
   have fl := unfrozen_of_block l
   have ll := lt_of_block l
   go_wp2_with fail
   refine (l3Ok_c _ (plainM 1 0 0 0 m.r) V1 (plainM_is _ _ _ _ _ _) (Nat.zero_le _) (Nat.zero_le _)).mono ?_
   rintro e V2 ⟨q1, rfl, k1_⟩
   clear cx fx lx cy fy ly cz fz lz cl fl ll
   have lx_ := lt_of_block x
   have ly_ := lt_of_block y
   have lz_ := lt_of_block z
   have ll_ := lt_of_block l
   replace x := carryB k1_ lx_ x
   replace y := carryB k1_ ly_ y
   replace z := carryB k1_ lz_ z
   replace l := carryB k1_ ll_ l
   replace K := below_next K k1_
   replace hs := Nat.le_trans hs k1_.size
   clear k1_ lx_ ly_ lz_ ll_
   cases q1 with
   | false =>
    have cl := cell_of_block l
    have fl := unfrozen_of_block l
    have ll := lt_of_block l
    have cx := cell_of_block x
    have fx := unfrozen_of_block x
    have lx := lt_of_block x
    have cy := cell_of_block y
    have fy := unfrozen_of_block y
    have ly := lt_of_block y
    have cz := cell_of_block z
    have fz := unfrozen_of_block z
    have lz := lt_of_block z
    go_wp2_with fail
    refine bodyPost_ret (v := .tuple #[.agg #[.int .i64 u.bad, .slice u.ra u.rp.length u.rc, .slice u.sa u.sd.length u.sc], .bool false]) (by simp [results, Try.results78, go_sem, cz]) rfl ?_
    exact ⟨u, false, rfl, HO.out.below (by repeat' (first | with_reducible exact Below.refl _ _ | with_reducible assumption | with_reducible refine Below.alloc ?_ ?_ _ | with_reducible refine Below.drew ?_ | with_reducible refine Below.setCell ?_ ?_ _ | omega | (simp; omega) | (simp; done))), HF.out.more (by omega) (by omega), (by repeat' (first | with_reducible exact Below.refl _ _ | with_reducible assumption | with_reducible refine Below.alloc ?_ ?_ _ | with_reducible refine Below.drew ?_ | with_reducible refine Below.setCell ?_ ?_ _ | omega | (simp; omega) | (simp; done)))⟩
   | true =>
    have cx := cell_of_block x
    have fx := unfrozen_of_block x
    have lx := lt_of_block x
    have cy := cell_of_block y
    have fy := unfrozen_of_block y
    have ly := lt_of_block y
    have cz := cell_of_block z
    have fz := unfrozen_of_block z
    have lz := lt_of_block z
    have cl := cell_of_block l
    have fl := unfrozen_of_block l
    have ll := lt_of_block l
    go_wp2_with fail
    refine (l3Has_c _ _ u.sd (plainM 1 0 0 0 m.r) V2 (HSX.out V2 K).2.2 (plainM_is _ _ _ _ _ _)).mono ?_
    rintro e V3 ⟨rfl, k1_⟩
    clear cx fx lx cy fy ly cz fz lz cl fl ll
    have lx_ := lt_of_block x
    have ly_ := lt_of_block y
    have lz_ := lt_of_block z
    have ll_ := lt_of_block l
    replace x := carryB k1_ lx_ x
    replace y := carryB k1_ ly_ y
    replace z := carryB k1_ lz_ z
    replace l := carryB k1_ ll_ l
    replace K := below_next K k1_
    replace hs := Nat.le_trans hs k1_.size
    clear k1_ lx_ ly_ lz_ ll_
    generalize hasM u.sd (plainM 1 0 0 0 m.r) = q2
    cases q2 with
    | true =>
     have cl := cell_of_block l
     have fl := unfrozen_of_block l
     have ll := lt_of_block l
     have cx := cell_of_block x
     have fx := unfrozen_of_block x
     have lx := lt_of_block x
     have cy := cell_of_block y
     have fy := unfrozen_of_block y
     have ly := lt_of_block y
     have cz := cell_of_block z
     have fz := unfrozen_of_block z
     have lz := lt_of_block z
     go_wp2_with fail
     refine bodyPost_ret (v := .tuple #[.agg #[.int .i64 u.bad, .slice u.ra u.rp.length u.rc, .slice u.sa u.sd.length u.sc], .bool false]) (by simp [results, Try.results78, go_sem, cz]) rfl ?_
     exact ⟨u, false, rfl, HO.out.below (by repeat' (first | with_reducible exact Below.refl _ _ | with_reducible assumption | with_reducible refine Below.alloc ?_ ?_ _ | with_reducible refine Below.drew ?_ | with_reducible refine Below.setCell ?_ ?_ _ | omega | (simp; omega) | (simp; done))), HF.out.more (by omega) (by omega), (by repeat' (first | with_reducible exact Below.refl _ _ | with_reducible assumption | with_reducible refine Below.alloc ?_ ?_ _ | with_reducible refine Below.drew ?_ | with_reducible refine Below.setCell ?_ ?_ _ | omega | (simp; omega) | (simp; done)))⟩
    | false =>
     have cx := cell_of_block x
     have fx := unfrozen_of_block x
     have lx := lt_of_block x
     have cy := cell_of_block y
     have fy := unfrozen_of_block y
     have ly := lt_of_block y
     have cz := cell_of_block z
     have fz := unfrozen_of_block z
     have lz := lt_of_block z
     have cl := cell_of_block l
     have fl := unfrozen_of_block l
     have ll := lt_of_block l
     go_wp2_with fail
     obtain ⟨V4, hV_, sV4, s, k1_⟩ := blocks1 V3 (.cells #[.int .i64 1, .int .i64 0, .int .i64 0, .int .i64 0, .int .i64 m.r.c, .int .i64 m.r.n, .int .i64 m.r.o, .int .i64 m.r.x, .int .i64 m.r.y, .slice none 0 0, .slice none 0 0] 34)
     rw [← hV_]
     clear hV_ sV4
     clear cx fx lx cy fy ly cz fz lz cl fl ll
     have lx_ := lt_of_block x
     have ly_ := lt_of_block y
     have lz_ := lt_of_block z
     have ll_ := lt_of_block l
     replace x := carryB k1_ lx_ x
     replace y := carryB k1_ ly_ y
     replace z := carryB k1_ lz_ z
     replace l := carryB k1_ ll_ l
     replace K := below_next K k1_
     replace hs := Nat.le_trans hs k1_.size
     clear k1_ lx_ ly_ lz_ ll_
     refine (l6Say_c X1 T D u _ [(plainM 1 0 0 0 m.r)] V4 (hbx _ _ K HO.out) HF.out (isMs_one (sl_of_block (R := Mg.cs) (zs := [(plainM 1 0 0 0 m.r)]) eleven_len s rfl (by simp)) (plainM_ok _ _ _ _ _ _)) (fit_one (plainM_fit _ _ _ _ _)) (by simp) (fun b hb => Nat.lt_of_lt_of_le (hlt b hb) hs)).mono ?_
     rintro e V5 ⟨u2, qe, rfl, hu2, hf2, k1_⟩
     clear x y
     have U2 := Lib.hid hu2
     have F2 := Lib.hid hf2
     clear hu2 hf2
     replace z := carryB k1_ (lt_of_block z) z
     replace K := below_next K k1_
     replace hs := Nat.le_trans hs k1_.size
     clear k1_
     have cz := cell_of_block z
     have fz := unfrozen_of_block z
     have lz := lt_of_block z
     go_wp2_with fail
     refine bodyPost_ret (v := .tuple #[.agg #[.int .i64 u2.bad, .slice u2.ra u2.rp.length u2.rc, .slice u2.sa u2.sd.length u2.sc], .bool qe]) (by simp [results, Try.results78, go_sem, cz]) rfl ?_
     refine ⟨u2, qe, rfl, Rob.weak (X := X1) ?_ hsub, F2.out.more (by omega) (by omega), (by repeat' (first | with_reducible exact Below.refl _ _ | with_reducible assumption | with_reducible refine Below.alloc ?_ ?_ _ | with_reducible refine Below.drew ?_ | with_reducible refine Below.setCell ?_ ?_ _ | omega | (simp; omega) | (simp; done)))⟩
     have hR := U2.out
     repeat' (first | with_reducible exact hR | refine Rob.setX ?_ (hin _ (by simp only; omega) (by simp only; omega)) _)
  | false =>
   cases p2 with
   | true =>
    obtain ⟨qa, hqa⟩ : ∃ q, inB pt 0 ((u.sd.length : Int) - 1) = q := ⟨_, rfl⟩
    have QA := Lib.hid hqa
    cases qh with
    | false =>
     clear hqa
     have cx := cell_of_block x
     have fx := unfrozen_of_block x
     have lx := lt_of_block x
     have cy := cell_of_block y
     have fy := unfrozen_of_block y
     have ly := lt_of_block y
     have cz := cell_of_block z
     have fz := unfrozen_of_block z
     have lz := lt_of_block z
     go_wp2_with fail
     refine bodyPost_ret (v := .tuple #[.agg #[.int .i64 u.bad, .slice u.ra u.rp.length u.rc, .slice u.sa u.sd.length u.sc], .bool false]) (by simp [results, Try.results78, go_sem, cz]) rfl ?_
     exact ⟨u, false, rfl, HO.out.below (by repeat' (first | with_reducible exact Below.refl _ _ | with_reducible assumption | with_reducible refine Below.alloc ?_ ?_ _ | with_reducible refine Below.drew ?_ | with_reducible refine Below.setCell ?_ ?_ _ | omega | (simp; omega) | (simp; done))), HF.out.more (by omega) (by omega), (by repeat' (first | with_reducible exact Below.refl _ _ | with_reducible assumption | with_reducible refine Below.alloc ?_ ?_ _ | with_reducible refine Below.drew ?_ | with_reducible refine Below.setCell ?_ ?_ _ | omega | (simp; omega) | (simp; done)))⟩
    | true =>
     have hto : 0 ≤ tw ∧ tw ≤ 3 := by
      have h := QH.out
      rw [Bool.and_eq_true] at h
      have h2 := QI.out
      rw [h.1] at h2
      simpa [inB] using h2
     cases qa with
     | false =>
      have cx := cell_of_block x
      have fx := unfrozen_of_block x
      have lx := lt_of_block x
      have cy := cell_of_block y
      have fy := unfrozen_of_block y
      have ly := lt_of_block y
      have cz := cell_of_block z
      have fz := unfrozen_of_block z
      have lz := lt_of_block z
      go_wp2_with (go_at_call 42; refine (l1In_c _ _ _ _).mono ?_; rintro e w' ⟨rfl, rfl⟩)
      refine bodyPost_ret (v := .tuple #[.agg #[.int .i64 u.bad, .slice u.ra u.rp.length u.rc, .slice u.sa u.sd.length u.sc], .bool false]) (by simp [results, Try.results78, go_sem, cz]) rfl ?_
      exact ⟨u, false, rfl, HO.out.below (by repeat' (first | with_reducible exact Below.refl _ _ | with_reducible assumption | with_reducible refine Below.alloc ?_ ?_ _ | with_reducible refine Below.drew ?_ | with_reducible refine Below.setCell ?_ ?_ _ | omega | (simp; omega) | (simp; done))), HF.out.more (by omega) (by omega), (by repeat' (first | with_reducible exact Below.refl _ _ | with_reducible assumption | with_reducible refine Below.alloc ?_ ?_ _ | with_reducible refine Below.drew ?_ | with_reducible refine Below.setCell ?_ ?_ _ | omega | (simp; omega) | (simp; done)))⟩
     | true =>
      have hpt : 0 ≤ pt ∧ pt ≤ (u.sd.length : Int) - 1 := by simpa [inB] using QA.out
      obtain ⟨js, hjs⟩ : ∃ j : Nat, pt = (j : Int) := ⟨pt.toNat, (Int.toNat_of_nonneg hpt.1).symm⟩
      subst hjs
      have hjs : js < u.sd.length := by omega
      have hjs1 : (js : Int) < (u.sd.length : Int) := by omega
      have hjs0 : (0 : Int) ≤ (js : Int) := by omega
      have cx := cell_of_block x
      have fx := unfrozen_of_block x
      have lx := lt_of_block x
      have cy := cell_of_block y
      have fy := unfrozen_of_block y
      have ly := lt_of_block y
      have cz := cell_of_block z
      have fz := unfrozen_of_block z
      have lz := lt_of_block z
      go_upto_region 11 with (go_at_call 42; refine (l1In_c _ _ _ _).mono ?_; rintro e w' ⟨rfl, rfl⟩)
      clear cx fx lx cy fy ly cz fz lz
      clear hqa
      have h4 := H4.out
      obtain ⟨jt, rfl⟩ : ∃ j : Nat, tw = (j : Int) := ⟨tw.toNat, (Int.toNat_of_nonneg hto.1).symm⟩
      have hjt : jt < u.rp.length := by omega
      have hjt1 : (jt : Int) < (u.rp.length : Int) := by omega
      have hjt0 : (0 : Int) ≤ (jt : Int) := by omega
      obtain ⟨b1, o1, ea1, hl1, hd1⟩ := rk_at HTR.out jt hjt
      obtain ⟨g0, g1, g2, g3, g4, g5, g6⟩ := hd1 W K
      have RO := Lib.hid (show Rob X1 (u.rp[jt]).ok W from (hbx _ _ K HO.out).imp (fun V h => h.2.1 _ (List.getElem_mem hjt)))
      have RF := Lib.hid (HF.out.rp u.rp[jt] (List.getElem_mem hjt))
      have hb1 : b1 < W.heap.size := by omega
      clear hd1 h4
      generalize u.rp[jt] = r at *
      obtain ⟨b2, o2, ea2, hl2, hd2⟩ := mg_at HT.out js hjs
      obtain ⟨d0, d1, d2, d3, d4, d5, d6, d7, d8, d9, d10⟩ := hd2 W K
      have SV := Lib.hid ((HSX.out W K).2.2.2 u.sd[js] (List.getElem_mem hjs))
      have VF := Lib.hid (HF.out.ms u.sd[js] (List.getElem_mem hjs))
      have hb2 : b2 < W.heap.size := by omega
      clear hd2
      have EXS := Lib.hid (Mg.ok.slices SV.out)
      generalize u.sd[js] = v at *
      obtain ⟨ax, qx, bx, dx, ex, fx⟩ := EXS.out
      rw [ex] at d9
      rw [fx] at d10
      have EX := Lib.hid (And.intro ex fx)
      clear ex fx EXS
      have EA := Lib.hid (And.intro ea1 ea2)
      rw [ea1, ea2] at x
      clear ea1 ea2
      have KW := Lib.hid K
      have hBW := Nat.le_refl W.heap.size
      have CC := fun (Q : World) (hQ : Below W.heap.size W Q) => l5Hear_c (Bx X1 W.heap.size Q.heap.size) T D r (.agg #[.int .i64 v.k, .int .i64 v.f, .int .i64 v.v, .int .i64 v.s, .int .i64 v.r.c, .int .i64 v.r.n, .int .i64 v.r.o, .int .i64 v.r.x, .int .i64 v.r.y, .slice ax v.cl.length qx, .slice bx v.vs.length dx]) (.slice u.sa u.sd.length u.sc) v u.sd Q (RO.out.box hQ _) RF.out (isMg_sl EX.out.1 EX.out.2 (Mg.ok.below SV.out hQ)) VF.out (HSX.out Q (KW.out.trans (hQ.mono KW.out.size))).2.2 HF.out.ms (Bx.lt (fun b hb => Nat.lt_of_lt_of_le (hlt b hb) hs) hQ.size) hT hD
      rw [EA.out.2] at CC
      have CC_ := Lib.hid CC
      clear CC
      have cx := cell_of_block x
      have fx := unfrozen_of_block x
      have lx := lt_of_block x
      have cy := cell_of_block y
      have fy := unfrozen_of_block y
      have ly := lt_of_block y
      have cz := cell_of_block z
      have fz := unfrozen_of_block z
      have lz := lt_of_block z
      refine wp_region_L (fun w' => ((∀ b o, b < W.heap.size → (w').cell? ⟨b, o, none⟩ = (W).cell? ⟨b, o, none⟩) ∧ Below (W.heap.size) (W) (w'))) [] (by kernel_rfl) ?_
      obtain ⟨W_0, hw_, kw_⟩ : ∃ wd, wd = W.drew ∧ Below W.heap.size W wd := ⟨_, rfl, Below.drew (Below.refl _ _)⟩
      rw [← hw_]
      clear hw_
      have hS := KeptB.of (kw_.mono hBW)
      clear kw_
      refine wpAnyL_take (i := 0) (oi := _) (v := ?_) (by (simp only [List.getElem?_toArray]; rfl)) (by kernel_rfl) (by kernel_rfl) (by kernel_rfl) (by kernel_rfl) (by exact fun _ _ _ h => h) (Or.inl ⟨by rfl, ?_⟩) (by assumption) ?_
      rotate_left
      ·
       intro wS hSw
       go_simp
       all_goals first | with_reducible rfl | rw [if_neg (by omega)]
      simp only [Act.put, List.setIfInBounds_toArray, List.set]
      refine wpAnyL_take (i := 1) (oi := _) (v := ?_) (by (simp only [List.getElem?_toArray]; rfl)) (by kernel_rfl) (by kernel_rfl) (by kernel_rfl) (by kernel_rfl) (by exact fun _ _ _ h => h) (Or.inl ⟨by rfl, ?_⟩) (by assumption) ?_
      rotate_left
      ·
       intro wS hSw
       go_simp
       all_goals first | with_reducible rfl | rw [if_neg (by omega)]
      simp only [Act.put, List.setIfInBounds_toArray, List.set]
      refine wpAnyL_take (i := 2) (oi := _) (v := ?_) (by (simp only [List.getElem?_toArray]; rfl)) (by kernel_rfl) (by kernel_rfl) (by kernel_rfl) (by kernel_rfl) (by exact fun _ _ _ h => h) (Or.inl ⟨by rfl, ?_⟩) (by assumption) ?_
      rotate_left
      ·
       intro wS hSw
       go_simp
       all_goals first | with_reducible rfl | rw [if_neg (by omega)]
      simp only [Act.put, List.setIfInBounds_toArray, List.set]
      refine wpAnyL_take (i := 3) (oi := _) (v := ?_) (by (simp only [List.getElem?_toArray]; rfl)) (by kernel_rfl) (by kernel_rfl) (by kernel_rfl) (by kernel_rfl) (by exact fun _ _ _ h => h) (Or.inl ⟨by rfl, ?_⟩) (by assumption) ?_
      rotate_left
      ·
       intro wS hSw
       go_simp
       all_goals first | with_reducible rfl | rw [if_neg (by omega)]
      simp only [Act.put, List.setIfInBounds_toArray, List.set]
      refine wpAnyL_take (i := 4) (oi := _) (v := ?_) (by (simp only [List.getElem?_toArray]; rfl)) (by kernel_rfl) (by kernel_rfl) (by kernel_rfl) (by kernel_rfl) (by exact fun _ _ _ h => h) (Or.inl ⟨by rfl, ?_⟩) (by assumption) ?_
      rotate_left
      ·
       intro wS hSw
       go_simp
       all_goals first | with_reducible rfl | rw [if_neg (by omega)]
      simp only [Act.put, List.setIfInBounds_toArray, List.set]
      refine wpAnyL_take (i := 5) (oi := _) (v := ?_) (by (simp only [List.getElem?_toArray]; rfl)) (by kernel_rfl) (by kernel_rfl) (by kernel_rfl) (by kernel_rfl) (by exact fun _ _ _ h => h) (Or.inl ⟨by rfl, ?_⟩) (by assumption) ?_
      rotate_left
      ·
       intro wS hSw
       go_simp
       all_goals first | with_reducible rfl | rw [if_neg (by omega)]
      simp only [Act.put, List.setIfInBounds_toArray, List.set]
      refine wpAnyL_take (i := 6) (oi := _) (v := ?_) (by (simp only [List.getElem?_toArray]; rfl)) (by kernel_rfl) (by kernel_rfl) (by kernel_rfl) (by kernel_rfl) (by exact fun _ _ _ h => h) (Or.inl ⟨by rfl, ?_⟩) (by assumption) ?_
      rotate_left
      ·
       intro wS hSw
       go_simp
       all_goals first | with_reducible rfl | rw [if_neg (by omega)]
      simp only [Act.put, List.setIfInBounds_toArray, List.set]
      refine wpAnyL_take (i := 7) (oi := _) (v := ?_) (by (simp only [List.getElem?_toArray]; rfl)) (by kernel_rfl) (by kernel_rfl) (by kernel_rfl) (by kernel_rfl) (by exact fun _ _ _ h => h) (Or.inl ⟨by rfl, ?_⟩) (by assumption) ?_
      rotate_left
      ·
       intro wS hSw
       go_simp
       all_goals first | with_reducible rfl | rw [if_neg (by omega)]
      simp only [Act.put, List.setIfInBounds_toArray, List.set]
      refine wpAnyL_take (i := 8) (oi := _) (v := ?_) (by (simp only [List.getElem?_toArray]; rfl)) (by kernel_rfl) (by kernel_rfl) (by kernel_rfl) (by kernel_rfl) (by exact fun _ _ _ h => h) (Or.inl ⟨by rfl, ?_⟩) (by assumption) ?_
      rotate_left
      ·
       intro wS hSw
       go_simp
       all_goals first | with_reducible rfl | rw [if_neg (by omega)]
      simp only [Act.put, List.setIfInBounds_toArray, List.set]
      refine wpAnyL_take (i := 9) (oi := _) (v := ?_) (by (simp only [List.getElem?_toArray]; rfl)) (by kernel_rfl) (by kernel_rfl) (by kernel_rfl) (by kernel_rfl) (by exact fun _ _ _ h => h) (Or.inl ⟨by rfl, ?_⟩) (by assumption) ?_
      rotate_left
      ·
       intro wS hSw
       go_simp
       all_goals first | with_reducible rfl | rw [if_neg (by omega)]
      simp only [Act.put, List.setIfInBounds_toArray, List.set]
      refine wpAnyL_take (i := 10) (oi := _) (v := ?_) (by (simp only [List.getElem?_toArray]; rfl)) (by kernel_rfl) (by kernel_rfl) (by kernel_rfl) (by kernel_rfl) (by exact fun _ _ _ h => h) (Or.inl ⟨by rfl, ?_⟩) (by assumption) ?_
      rotate_left
      ·
       intro wS hSw
       go_simp
       all_goals first | with_reducible rfl | rw [if_neg (by omega)]
      simp only [Act.put, List.setIfInBounds_toArray, List.set]
      refine wpAnyL_take (i := 11) (oi := _) (v := ?_) (by (simp only [List.getElem?_toArray]; rfl)) (by kernel_rfl) (by kernel_rfl) (by kernel_rfl) (by kernel_rfl) (by exact fun _ _ _ h => h) (Or.inl ⟨by rfl, ?_⟩) (by assumption) ?_
      rotate_left
      ·
       intro wS hSw
       go_simp
       all_goals first | with_reducible rfl | rw [if_neg (by omega)]
      simp only [Act.put, List.setIfInBounds_toArray, List.set]
      refine wpAnyL_take (i := 12) (oi := _) (v := ?_) (by (simp only [List.getElem?_toArray]; rfl)) (by kernel_rfl) (by kernel_rfl) (by kernel_rfl) (by kernel_rfl) (by exact fun _ _ _ h => h) (Or.inl ⟨by rfl, ?_⟩) (by assumption) ?_
      rotate_left
      ·
       intro wS hSw
       go_simp
       all_goals first | with_reducible rfl | rw [if_neg (by omega)]
      simp only [Act.put, List.setIfInBounds_toArray, List.set]
      refine wpAnyL_take (i := 13) (oi := _) (v := ?_) (by (simp only [List.getElem?_toArray]; rfl)) (by kernel_rfl) (by kernel_rfl) (by kernel_rfl) (by kernel_rfl) (by exact fun _ _ _ h => h) (Or.inl ⟨by rfl, ?_⟩) (by assumption) ?_
      rotate_left
      ·
       intro wS hSw
       go_simp
       all_goals first | with_reducible rfl | rw [if_neg (by omega)]
      simp only [Act.put, List.setIfInBounds_toArray, List.set]
      refine wpAnyL_ready (rs := [14, 18]) (by kernel_rfl) (by simp) ?_
      refine AllReadyL.cons (o := _) (by (simp only [List.getElem?_toArray]; rfl)) (fun K hK => ?_) ?_
      ·
       skip
       go_simp
       refine (CC_.out W_0 hS.2).mono ?_
       rintro e W_1 ⟨r2, a2, c2, sy, rfl, hr2, hf2, hsy2, hmf2, hln2, kw_⟩
       have hRK : Below W.heap.size W W_1 := hS.2.trans (kw_.mono (Nat.le_trans hBW hS.2.size))
       clear hS
       have hS := KeptB.of hRK
       clear hRK
       clear kw_
       have R2 := Lib.hid hr2
       have F2 := Lib.hid hf2
       have S2 := Lib.hid hsy2
       have MF2 := Lib.hid hmf2
       have LN2 := Lib.hid hln2
       clear hr2 hf2 hsy2 hmf2 hln2
       refine hK.out _ _ (fun _ => hS) ?_
       clear hK K
       try simp only [Act.put, List.setIfInBounds_toArray, List.set]
       refine wpAnyL_take (i := 15) (oi := _) (v := ?_) (by (simp only [List.getElem?_toArray]; rfl)) (by kernel_rfl) (by kernel_rfl) (by kernel_rfl) (by kernel_rfl) (by exact fun _ _ _ h => h) (Or.inl ⟨by rfl, ?_⟩) (by assumption) ?_
       rotate_left
       ·
        intro wS hSw
        go_simp
        all_goals first | with_reducible rfl | rw [if_neg (by omega)]
       simp only [Act.put, List.setIfInBounds_toArray, List.set]
       refine wpAnyL_take (i := 16) (oi := _) (v := ?_) (by (simp only [List.getElem?_toArray]; rfl)) (by kernel_rfl) (by kernel_rfl) (by kernel_rfl) (by kernel_rfl) (by exact fun _ _ _ h => h) (Or.inl ⟨by rfl, ?_⟩) (by assumption) ?_
       rotate_left
       ·
        intro wS hSw
        go_simp
        all_goals first | with_reducible rfl | rw [if_neg (by omega)]
       simp only [Act.put, List.setIfInBounds_toArray, List.set]
       refine wpAnyL_take (i := 17) (oi := _) (v := ?_) (by (simp only [List.getElem?_toArray]; rfl)) (by kernel_rfl) (by kernel_rfl) (by kernel_rfl) (by kernel_rfl) (by exact fun _ _ _ h => h) (Or.inl ⟨by rfl, ?_⟩) (by assumption) ?_
       rotate_left
       ·
        intro wS hSw
        go_simp
        all_goals first | with_reducible rfl | rw [if_neg (by omega)]
       simp only [Act.put, List.setIfInBounds_toArray, List.set]
       refine wpAnyL_ready (rs := [18]) (by kernel_rfl) (by simp) ?_
       refine AllReadyL.cons (o := _) (by (simp only [List.getElem?_toArray]; rfl)) (fun K hK => ?_) AllReadyL.nil
       go_simp
       obtain ⟨W_2, hw_, sw_, hv_, kw_⟩ := blocks1 W_1 (.cells #[.int .i64 0, .int .i64 0, .bool false, .int .i64 0, .slice none 0 0, .slice none 0 0, .slice none 0 0] 78)
       rw [← hw_]
       clear hw_
       have hgl_ : W_1.heap.size < W_2.heap.size := by omega
       have hg0_ : W.heap.size ≤ W_1.heap.size := Nat.le_trans hBW hS.2.size
       have hgX := Lib.hid (show BlkIs W_1.heap.size #[.int .i64 0, .int .i64 0, .bool false, .int .i64 0, .slice none 0 0, .slice none 0 0, .slice none 0 0] 78 W_2 from hv_)
       clear hv_ sw_
       replace R2 := Lib.hid (R2.out.box kw_ W_2.heap.size)
       replace S2 := Lib.hid (S2.out.box kw_ W_2.heap.size)
       have hRK : Below W.heap.size W W_2 := hS.2.trans (kw_.mono (Nat.le_trans hBW hS.2.size))
       clear hS
       have hS := KeptB.of hRK
       clear hRK
       clear kw_
       refine hK.out _ _ (fun _ => hS) ?_
       clear hK K
       try simp only [Act.put, List.setIfInBounds_toArray, List.set]
       refine wpAnyL_ready (rs := [19]) (by kernel_rfl) (by simp) ?_
       refine AllReadyL.cons (o := _) (by (simp only [List.getElem?_toArray]; rfl)) (fun K hK => ?_) AllReadyL.nil
       have zq_ := hgX.out
       unfold BlkIs at zq_
       have cq_ := cell_of_block zq_
       have fq_ := unfrozen_of_block zq_
       have lq_ := lt_of_block zq_
       go_simp
       obtain ⟨Q1, hV_, sV_, x9, oV_, kV_⟩ := stored7 W_2 (W_1.heap.size) _ _ _ _ _ _ _ (.int .i64 r2.me) (.int .i64 r2.view) (.bool r2.live) (.int .i64 r2.nx) (.slice r2.ta r2.tk.length r2.tc) (.slice r2.ha r2.hd.length r2.hc) (.slice r2.da r2.dn.length r2.dc) zq_
       rw [← hV_]
       clear hV_
       replace R2 := Lib.hid (Rob.weak (X' := X1) (R2.out.stored sV_ oV_ (by first | exact .inr ⟨hg0_, hgl_⟩ | exact .inr ⟨Nat.le_refl _, hgl_⟩)) (by first | exact fun b hb => .inl hb | exact fun b hb => .inl (.inl hb)))
       replace S2 := Lib.hid (Rob.weak (X' := X1) (S2.out.stored sV_ oV_ (by first | exact .inr ⟨hg0_, hgl_⟩ | exact .inr ⟨Nat.le_refl _, hgl_⟩)) (by first | exact fun b hb => .inl hb | exact fun b hb => .inl (.inl hb)))
       have KQ := Lib.hid (hS.2.trans (kV_.mono hg0_))
       replace hS := KeptB.of KQ.out
       clear zq_ cq_ fq_ lq_ kV_ oV_ sV_ hgX
       refine hK.out _ _ (fun _ => hS) ?_
       clear hK K
       try simp only [Act.put, List.setIfInBounds_toArray, List.set]
       refine wpAnyL_take (i := 20) (oi := _) (v := ?_) (by (simp only [List.getElem?_toArray]; rfl)) (by kernel_rfl) (by kernel_rfl) (by kernel_rfl) (by kernel_rfl) (by exact fun _ _ _ h => h) (Or.inl ⟨by rfl, ?_⟩) (by assumption) ?_
       rotate_left
       ·
        intro wS hSw
        go_simp
        all_goals first | with_reducible rfl | rw [if_neg (by omega)]
       simp only [Act.put, List.setIfInBounds_toArray, List.set]
       refine wpAnyL_done (by kernel_rfl) ?_ _
       clear hS hgl_
       clear cx fx lx cy fy ly cz fz lz
       have lz_ := lt_of_block z
       have ly_ := lt_of_block y
       replace x := carryB KQ.out (lt_of_block x) x
       replace y := carryB KQ.out ly_ y
       replace z := carryB KQ.out lz_ z
       rw [← EA.out.1, ← EA.out.2] at x
       replace K := below_next K KQ.out
       replace hs := Nat.le_trans hs KQ.out.size
       clear KQ lz_ ly_
       have cx := cell_of_block x
       have fx := unfrozen_of_block x
       have lx := lt_of_block x
       have cy := cell_of_block y
       have fy := unfrozen_of_block y
       have ly := lt_of_block y
       have cz := cell_of_block z
       have fz := unfrozen_of_block z
       have lz := lt_of_block z
       have cx9 := cell_of_block x9
       have fx9 := unfrozen_of_block x9
       have lx9 := lt_of_block x9
       go_wp2_with fail
       refine (l6Set_c X1 (T + 5) (D + (T + 5)) u r2 _ sy Q1 (hbx _ _ K HO.out) (HF.out.more (by omega) (by omega)) R2.out F2.out S2.out.out MF2.out (by have := LN2.out; omega) (fun b hb => Nat.lt_of_lt_of_le (hlt b hb) hs)).mono ?_
       rintro e V5 ⟨u2, qe, rfl, hu2, hf2, k1_⟩
       clear cx fx lx cy fy ly cz fz lz cx9 fx9 lx9
       clear R2 F2 S2 MF2 LN2
       clear x y
       have U2 := Lib.hid hu2
       have F2 := Lib.hid hf2
       clear hu2 hf2
       replace z := carryB k1_ (lt_of_block z) z
       replace K := below_next K k1_
       replace hs := Nat.le_trans hs k1_.size
       clear k1_
       have cz := cell_of_block z
       have fz := unfrozen_of_block z
       have lz := lt_of_block z
       go_wp2_with fail
       refine bodyPost_ret (v := .tuple #[.agg #[.int .i64 u2.bad, .slice u2.ra u2.rp.length u2.rc, .slice u2.sa u2.sd.length u2.sc], .bool qe]) (by simp [results, Try.results78, go_sem, cz]) rfl ?_
       refine ⟨u2, qe, rfl, Rob.weak (X := X1) ?_ hsub, F2.out.more (by omega) (by omega), (by repeat' (first | with_reducible exact Below.refl _ _ | with_reducible assumption | with_reducible refine Below.alloc ?_ ?_ _ | with_reducible refine Below.drew ?_ | with_reducible refine Below.setCell ?_ ?_ _ | omega | (simp; omega) | (simp; done)))⟩
       have hR := U2.out
       repeat' (first | with_reducible exact hR | refine Rob.setX ?_ (hin _ (by simp only; omega) (by simp only; omega)) _)
      refine AllReadyL.cons (o := _) (by (simp only [List.getElem?_toArray]; rfl)) (fun K hK => ?_) ?_
      ·
       skip
       go_simp
       obtain ⟨W_1, hw_, sw_, hv_, kw_⟩ := blocks1 W_0 (.cells #[.int .i64 0, .int .i64 0, .bool false, .int .i64 0, .slice none 0 0, .slice none 0 0, .slice none 0 0] 78)
       rw [← hw_]
       clear hw_
       have hgl_ : W_0.heap.size < W_1.heap.size := by omega
       have hg0_ : W.heap.size ≤ W_0.heap.size := Nat.le_trans hBW hS.2.size
       have hgX := Lib.hid (show BlkIs W_0.heap.size #[.int .i64 0, .int .i64 0, .bool false, .int .i64 0, .slice none 0 0, .slice none 0 0, .slice none 0 0] 78 W_1 from hv_)
       clear hv_ sw_
       have hRK : Below W.heap.size W W_1 := hS.2.trans (kw_.mono (Nat.le_trans hBW hS.2.size))
       clear hS
       have hS := KeptB.of hRK
       clear hRK
       clear kw_
       refine hK.out _ _ (fun _ => hS) ?_
       clear hK K
       try simp only [Act.put, List.setIfInBounds_toArray, List.set]
       refine wpAnyL_ready (rs := [14]) (by kernel_rfl) (by simp) ?_
       refine AllReadyL.cons (o := _) (by (simp only [List.getElem?_toArray]; rfl)) (fun K hK => ?_) AllReadyL.nil
       go_simp
       refine (CC_.out W_1 hS.2).mono ?_
       rintro e W_2 ⟨r2, a2, c2, sy, rfl, hr2, hf2, hsy2, hmf2, hln2, kw_⟩
       have hRK : Below W.heap.size W W_2 := hS.2.trans (kw_.mono (Nat.le_trans hBW hS.2.size))
       clear hS
       have hS := KeptB.of hRK
       clear hRK
       replace hgX := Lib.hid (hgX.out.below kw_)
       clear kw_
       have R2 := Lib.hid hr2
       have F2 := Lib.hid hf2
       have S2 := Lib.hid hsy2
       have MF2 := Lib.hid hmf2
       have LN2 := Lib.hid hln2
       clear hr2 hf2 hsy2 hmf2 hln2
       refine hK.out _ _ (fun _ => hS) ?_
       clear hK K
       try simp only [Act.put, List.setIfInBounds_toArray, List.set]
       refine wpAnyL_take (i := 15) (oi := _) (v := ?_) (by (simp only [List.getElem?_toArray]; rfl)) (by kernel_rfl) (by kernel_rfl) (by kernel_rfl) (by kernel_rfl) (by exact fun _ _ _ h => h) (Or.inl ⟨by rfl, ?_⟩) (by assumption) ?_
       rotate_left
       ·
        intro wS hSw
        go_simp
        all_goals first | with_reducible rfl | rw [if_neg (by omega)]
       simp only [Act.put, List.setIfInBounds_toArray, List.set]
       refine wpAnyL_take (i := 16) (oi := _) (v := ?_) (by (simp only [List.getElem?_toArray]; rfl)) (by kernel_rfl) (by kernel_rfl) (by kernel_rfl) (by kernel_rfl) (by exact fun _ _ _ h => h) (Or.inl ⟨by rfl, ?_⟩) (by assumption) ?_
       rotate_left
       ·
        intro wS hSw
        go_simp
        all_goals first | with_reducible rfl | rw [if_neg (by omega)]
       simp only [Act.put, List.setIfInBounds_toArray, List.set]
       refine wpAnyL_take (i := 17) (oi := _) (v := ?_) (by (simp only [List.getElem?_toArray]; rfl)) (by kernel_rfl) (by kernel_rfl) (by kernel_rfl) (by kernel_rfl) (by exact fun _ _ _ h => h) (Or.inl ⟨by rfl, ?_⟩) (by assumption) ?_
       rotate_left
       ·
        intro wS hSw
        go_simp
        all_goals first | with_reducible rfl | rw [if_neg (by omega)]
       simp only [Act.put, List.setIfInBounds_toArray, List.set]
       refine wpAnyL_ready (rs := [19]) (by kernel_rfl) (by simp) ?_
       refine AllReadyL.cons (o := _) (by (simp only [List.getElem?_toArray]; rfl)) (fun K hK => ?_) AllReadyL.nil
       have zq_ := hgX.out
       unfold BlkIs at zq_
       have cq_ := cell_of_block zq_
       have fq_ := unfrozen_of_block zq_
       have lq_ := lt_of_block zq_
       go_simp
       obtain ⟨Q1, hV_, sV_, x9, oV_, kV_⟩ := stored7 W_2 (W_0.heap.size) _ _ _ _ _ _ _ (.int .i64 r2.me) (.int .i64 r2.view) (.bool r2.live) (.int .i64 r2.nx) (.slice r2.ta r2.tk.length r2.tc) (.slice r2.ha r2.hd.length r2.hc) (.slice r2.da r2.dn.length r2.dc) zq_
       rw [← hV_]
       clear hV_
       replace R2 := Lib.hid (Rob.weak (X' := X1) (R2.out.stored sV_ oV_ (by first | exact .inr ⟨hg0_, hgl_⟩ | exact .inr ⟨Nat.le_refl _, hgl_⟩)) (by first | exact fun b hb => .inl hb | exact fun b hb => .inl (.inl hb)))
       replace S2 := Lib.hid (Rob.weak (X' := X1) (S2.out.stored sV_ oV_ (by first | exact .inr ⟨hg0_, hgl_⟩ | exact .inr ⟨Nat.le_refl _, hgl_⟩)) (by first | exact fun b hb => .inl hb | exact fun b hb => .inl (.inl hb)))
       have KQ := Lib.hid (hS.2.trans (kV_.mono hg0_))
       replace hS := KeptB.of KQ.out
       clear zq_ cq_ fq_ lq_ kV_ oV_ sV_ hgX
       refine hK.out _ _ (fun _ => hS) ?_
       clear hK K
       try simp only [Act.put, List.setIfInBounds_toArray, List.set]
       refine wpAnyL_take (i := 20) (oi := _) (v := ?_) (by (simp only [List.getElem?_toArray]; rfl)) (by kernel_rfl) (by kernel_rfl) (by kernel_rfl) (by kernel_rfl) (by exact fun _ _ _ h => h) (Or.inl ⟨by rfl, ?_⟩) (by assumption) ?_
       rotate_left
       ·
        intro wS hSw
        go_simp
        all_goals first | with_reducible rfl | rw [if_neg (by omega)]
       simp only [Act.put, List.setIfInBounds_toArray, List.set]
       refine wpAnyL_done (by kernel_rfl) ?_ _
       clear hS hgl_
       clear cx fx lx cy fy ly cz fz lz
       have lz_ := lt_of_block z
       have ly_ := lt_of_block y
       replace x := carryB KQ.out (lt_of_block x) x
       replace y := carryB KQ.out ly_ y
       replace z := carryB KQ.out lz_ z
       rw [← EA.out.1, ← EA.out.2] at x
       replace K := below_next K KQ.out
       replace hs := Nat.le_trans hs KQ.out.size
       clear KQ lz_ ly_
       have cx := cell_of_block x
       have fx := unfrozen_of_block x
       have lx := lt_of_block x
       have cy := cell_of_block y
       have fy := unfrozen_of_block y
       have ly := lt_of_block y
       have cz := cell_of_block z
       have fz := unfrozen_of_block z
       have lz := lt_of_block z
       have cx9 := cell_of_block x9
       have fx9 := unfrozen_of_block x9
       have lx9 := lt_of_block x9
       go_wp2_with fail
       refine (l6Set_c X1 (T + 5) (D + (T + 5)) u r2 _ sy Q1 (hbx _ _ K HO.out) (HF.out.more (by omega) (by omega)) R2.out F2.out S2.out.out MF2.out (by have := LN2.out; omega) (fun b hb => Nat.lt_of_lt_of_le (hlt b hb) hs)).mono ?_
       rintro e V5 ⟨u2, qe, rfl, hu2, hf2, k1_⟩
       clear cx fx lx cy fy ly cz fz lz cx9 fx9 lx9
       clear R2 F2 S2 MF2 LN2
       clear x y
       have U2 := Lib.hid hu2
       have F2 := Lib.hid hf2
       clear hu2 hf2
       replace z := carryB k1_ (lt_of_block z) z
       replace K := below_next K k1_
       replace hs := Nat.le_trans hs k1_.size
       clear k1_
       have cz := cell_of_block z
       have fz := unfrozen_of_block z
       have lz := lt_of_block z
       go_wp2_with fail
       refine bodyPost_ret (v := .tuple #[.agg #[.int .i64 u2.bad, .slice u2.ra u2.rp.length u2.rc, .slice u2.sa u2.sd.length u2.sc], .bool qe]) (by simp [results, Try.results78, go_sem, cz]) rfl ?_
       refine ⟨u2, qe, rfl, Rob.weak (X := X1) ?_ hsub, F2.out.more (by omega) (by omega), (by repeat' (first | with_reducible exact Below.refl _ _ | with_reducible assumption | with_reducible refine Below.alloc ?_ ?_ _ | with_reducible refine Below.drew ?_ | with_reducible refine Below.setCell ?_ ?_ _ | omega | (simp; omega) | (simp; done)))⟩
       have hR := U2.out
       repeat' (first | with_reducible exact hR | refine Rob.setX ?_ (hin _ (by simp only; omega) (by simp only; omega)) _)
      exact AllReadyL.nil
   | false =>
    cases p3 with
    | true =>
     cases qh with
     | false =>
      have cx := cell_of_block x
      have fx := unfrozen_of_block x
      have lx := lt_of_block x
      have cy := cell_of_block y
      have fy := unfrozen_of_block y
      have ly := lt_of_block y
      have cz := cell_of_block z
      have fz := unfrozen_of_block z
      have lz := lt_of_block z
      go_wp2_with fail
      refine bodyPost_ret (v := .tuple #[.agg #[.int .i64 u.bad, .slice u.ra u.rp.length u.rc, .slice u.sa u.sd.length u.sc], .bool false]) (by simp [results, Try.results78, go_sem, cz]) rfl ?_
      exact ⟨u, false, rfl, HO.out.below (by repeat' (first | with_reducible exact Below.refl _ _ | with_reducible assumption | with_reducible refine Below.alloc ?_ ?_ _ | with_reducible refine Below.drew ?_ | with_reducible refine Below.setCell ?_ ?_ _ | omega | (simp; omega) | (simp; done))), HF.out.more (by omega) (by omega), (by repeat' (first | with_reducible exact Below.refl _ _ | with_reducible assumption | with_reducible refine Below.alloc ?_ ?_ _ | with_reducible refine Below.drew ?_ | with_reducible refine Below.setCell ?_ ?_ _ | omega | (simp; omega) | (simp; done)))⟩
     | true =>
      have hto : 0 ≤ tw ∧ tw ≤ 3 := by
       have h := QH.out
       rw [Bool.and_eq_true] at h
       have h2 := QI.out
       rw [h.1] at h2
       simpa [inB] using h2
      have h4 := H4.out
      obtain ⟨jt, rfl⟩ : ∃ j : Nat, tw = (j : Int) := ⟨tw.toNat, (Int.toNat_of_nonneg hto.1).symm⟩
      have hjt : jt < u.rp.length := by omega
      have hjt1 : (jt : Int) < (u.rp.length : Int) := by omega
      have hjt0 : (0 : Int) ≤ (jt : Int) := by omega
      obtain ⟨b1, o1, ea1, hl1, hd1⟩ := rk_at HTR.out jt hjt
      obtain ⟨g0, g1, g2, g3, g4, g5, g6⟩ := hd1 W K
      have RO := Lib.hid (show Rob X1 (u.rp[jt]).ok W from (hbx _ _ K HO.out).imp (fun V h => h.2.1 _ (List.getElem_mem hjt)))
      have RF := Lib.hid (HF.out.rp u.rp[jt] (List.getElem_mem hjt))
      have hb1 : b1 < W.heap.size := by omega
      clear hd1 h4
      generalize u.rp[jt] = r at *
      have EA := Lib.hid ea1
      rw [ea1] at x
      clear ea1
      obtain ⟨qv, hqv⟩ : ∃ q, decide ((6 : Int) ≤ r.view) = q := ⟨_, rfl⟩
      cases qv with
      | true =>
       have cx := cell_of_block x
       have fx := unfrozen_of_block x
       have lx := lt_of_block x
       have cy := cell_of_block y
       have fy := unfrozen_of_block y
       have ly := lt_of_block y
       have cz := cell_of_block z
       have fz := unfrozen_of_block z
       have lz := lt_of_block z
       go_wp2_with fail
       refine bodyPost_ret (v := .tuple #[.agg #[.int .i64 u.bad, .slice u.ra u.rp.length u.rc, .slice u.sa u.sd.length u.sc], .bool false]) (by simp [results, Try.results78, go_sem, cz, EA.out]) rfl ?_
       exact ⟨u, false, rfl, HO.out.below (by repeat' (first | with_reducible exact Below.refl _ _ | with_reducible assumption | with_reducible refine Below.alloc ?_ ?_ _ | with_reducible refine Below.drew ?_ | with_reducible refine Below.setCell ?_ ?_ _ | omega | (simp; omega) | (simp; done))), HF.out.more (by omega) (by omega), (by repeat' (first | with_reducible exact Below.refl _ _ | with_reducible assumption | with_reducible refine Below.alloc ?_ ?_ _ | with_reducible refine Below.drew ?_ | with_reducible refine Below.setCell ?_ ?_ _ | omega | (simp; omega) | (simp; done)))⟩
      | false =>
       have cx := cell_of_block x
       have fx := unfrozen_of_block x
       have lx := lt_of_block x
       have cy := cell_of_block y
       have fy := unfrozen_of_block y
       have ly := lt_of_block y
       have cz := cell_of_block z
       have fz := unfrozen_of_block z
       have lz := lt_of_block z
       go_upto_region 16 with fail
       clear cx fx lx cy fy ly cz fz lz
       clear hqv
       have KW := Lib.hid K
       have hBW := Nat.le_refl W.heap.size
       have cx := cell_of_block x
       have fx := unfrozen_of_block x
       have lx := lt_of_block x
       have cy := cell_of_block y
       have fy := unfrozen_of_block y
       have ly := lt_of_block y
       have cz := cell_of_block z
       have fz := unfrozen_of_block z
       have lz := lt_of_block z
       refine wp_region_L (fun w' => ((∀ b o, b < W.heap.size → (w').cell? ⟨b, o, none⟩ = (W).cell? ⟨b, o, none⟩) ∧ Below (W.heap.size) (W) (w'))) [] (by kernel_rfl) ?_
       obtain ⟨W_0, hw_, kw_⟩ : ∃ wd, wd = W.drew ∧ Below W.heap.size W wd := ⟨_, rfl, Below.drew (Below.refl _ _)⟩
       rw [← hw_]
       clear hw_
       have hS := KeptB.of (kw_.mono hBW)
       clear kw_
       refine wpAnyL_take (i := 0) (oi := _) (v := ?_) (by (simp only [List.getElem?_toArray]; rfl)) (by kernel_rfl) (by kernel_rfl) (by kernel_rfl) (by kernel_rfl) (by exact fun _ _ _ h => h) (Or.inl ⟨by rfl, ?_⟩) (by assumption) ?_
       rotate_left
       ·
        intro wS hSw
        go_simp
        all_goals first | with_reducible rfl | rw [if_neg (by omega)]
       simp only [Act.put, List.setIfInBounds_toArray, List.set]
       refine wpAnyL_take (i := 1) (oi := _) (v := ?_) (by (simp only [List.getElem?_toArray]; rfl)) (by kernel_rfl) (by kernel_rfl) (by kernel_rfl) (by kernel_rfl) (by exact fun _ _ _ h => h) (Or.inl ⟨by rfl, ?_⟩) (by assumption) ?_
       rotate_left
       ·
        intro wS hSw
        go_simp
        all_goals first | with_reducible rfl | rw [if_neg (by omega)]
       simp only [Act.put, List.setIfInBounds_toArray, List.set]
       refine wpAnyL_take (i := 2) (oi := _) (v := ?_) (by (simp only [List.getElem?_toArray]; rfl)) (by kernel_rfl) (by kernel_rfl) (by kernel_rfl) (by kernel_rfl) (by exact fun _ _ _ h => h) (Or.inl ⟨by rfl, ?_⟩) (by assumption) ?_
       rotate_left
       ·
        intro wS hSw
        go_simp
        all_goals first | with_reducible rfl | rw [if_neg (by omega)]
       simp only [Act.put, List.setIfInBounds_toArray, List.set]
       refine wpAnyL_take (i := 3) (oi := _) (v := ?_) (by (simp only [List.getElem?_toArray]; rfl)) (by kernel_rfl) (by kernel_rfl) (by kernel_rfl) (by kernel_rfl) (by exact fun _ _ _ h => h) (Or.inl ⟨by rfl, ?_⟩) (by assumption) ?_
       rotate_left
       ·
        intro wS hSw
        go_simp
        all_goals first | with_reducible rfl | rw [if_neg (by omega)]
       simp only [Act.put, List.setIfInBounds_toArray, List.set]
       refine wpAnyL_take (i := 4) (oi := _) (v := ?_) (by (simp only [List.getElem?_toArray]; rfl)) (by kernel_rfl) (by kernel_rfl) (by kernel_rfl) (by kernel_rfl) (by exact fun _ _ _ h => h) (Or.inl ⟨by rfl, ?_⟩) (by assumption) ?_
       rotate_left
       ·
        intro wS hSw
        go_simp
        all_goals first | with_reducible rfl | rw [if_neg (by omega)]
       simp only [Act.put, List.setIfInBounds_toArray, List.set]
       refine wpAnyL_take (i := 5) (oi := _) (v := ?_) (by (simp only [List.getElem?_toArray]; rfl)) (by kernel_rfl) (by kernel_rfl) (by kernel_rfl) (by kernel_rfl) (by exact fun _ _ _ h => h) (Or.inl ⟨by rfl, ?_⟩) (by assumption) ?_
       rotate_left
       ·
        intro wS hSw
        go_simp
        all_goals first | with_reducible rfl | rw [if_neg (by omega)]
       simp only [Act.put, List.setIfInBounds_toArray, List.set]
       refine wpAnyL_take (i := 6) (oi := _) (v := ?_) (by (simp only [List.getElem?_toArray]; rfl)) (by kernel_rfl) (by kernel_rfl) (by kernel_rfl) (by kernel_rfl) (by exact fun _ _ _ h => h) (Or.inl ⟨by rfl, ?_⟩) (by assumption) ?_
       rotate_left
       ·
        intro wS hSw
        go_simp
        all_goals first | with_reducible rfl | rw [if_neg (by omega)]
       simp only [Act.put, List.setIfInBounds_toArray, List.set]
       refine wpAnyL_take (i := 7) (oi := _) (v := ?_) (by (simp only [List.getElem?_toArray]; rfl)) (by kernel_rfl) (by kernel_rfl) (by kernel_rfl) (by kernel_rfl) (by exact fun _ _ _ h => h) (Or.inl ⟨by rfl, ?_⟩) (by assumption) ?_
       rotate_left
       ·
        intro wS hSw
        go_simp
        all_goals first | with_reducible rfl | rw [if_neg (by omega)]
       simp only [Act.put, List.setIfInBounds_toArray, List.set]
       refine wpAnyL_ready (rs := [8, 12]) (by kernel_rfl) (by simp) ?_
       refine AllReadyL.cons (o := _) (by (simp only [List.getElem?_toArray]; rfl)) (fun K hK => ?_) ?_
       ·
        skip
        go_simp
        refine (l5Turns_c (Bx X1 W.heap.size W_0.heap.size) T D r _ u.sd W_0 (RO.out.box hS.2 _) RF.out ((HSX.out W_0 (KW.out.trans (hS.2.mono KW.out.size))).2.2) HF.out.ms (by omega) (Bx.lt (fun b hb => Nat.lt_of_lt_of_le (hlt b hb) hs) hS.2.size) (by omega)).mono ?_
        rintro e W_1 ⟨r2, a2, c2, sy, rfl, hr2, hf2, hsy2, hmf2, hln2, kw_⟩
        have hRK : Below W.heap.size W W_1 := hS.2.trans (kw_.mono (Nat.le_trans hBW hS.2.size))
        clear hS
        have hS := KeptB.of hRK
        clear hRK
        clear kw_
        have R2 := Lib.hid hr2
        have F2 := Lib.hid hf2
        have S2 := Lib.hid hsy2
        have MF2 := Lib.hid hmf2
        have LN2 := Lib.hid hln2
        clear hr2 hf2 hsy2 hmf2 hln2
        refine hK.out _ _ (fun _ => hS) ?_
        clear hK K
        try simp only [Act.put, List.setIfInBounds_toArray, List.set]
        refine wpAnyL_take (i := 9) (oi := _) (v := ?_) (by (simp only [List.getElem?_toArray]; rfl)) (by kernel_rfl) (by kernel_rfl) (by kernel_rfl) (by kernel_rfl) (by exact fun _ _ _ h => h) (Or.inl ⟨by rfl, ?_⟩) (by assumption) ?_
        rotate_left
        ·
         intro wS hSw
         go_simp
         all_goals first | with_reducible rfl | rw [if_neg (by omega)]
        simp only [Act.put, List.setIfInBounds_toArray, List.set]
        refine wpAnyL_take (i := 10) (oi := _) (v := ?_) (by (simp only [List.getElem?_toArray]; rfl)) (by kernel_rfl) (by kernel_rfl) (by kernel_rfl) (by kernel_rfl) (by exact fun _ _ _ h => h) (Or.inl ⟨by rfl, ?_⟩) (by assumption) ?_
        rotate_left
        ·
         intro wS hSw
         go_simp
         all_goals first | with_reducible rfl | rw [if_neg (by omega)]
        simp only [Act.put, List.setIfInBounds_toArray, List.set]
        refine wpAnyL_take (i := 11) (oi := _) (v := ?_) (by (simp only [List.getElem?_toArray]; rfl)) (by kernel_rfl) (by kernel_rfl) (by kernel_rfl) (by kernel_rfl) (by exact fun _ _ _ h => h) (Or.inl ⟨by rfl, ?_⟩) (by assumption) ?_
        rotate_left
        ·
         intro wS hSw
         go_simp
         all_goals first | with_reducible rfl | rw [if_neg (by omega)]
        simp only [Act.put, List.setIfInBounds_toArray, List.set]
        refine wpAnyL_ready (rs := [12]) (by kernel_rfl) (by simp) ?_
        refine AllReadyL.cons (o := _) (by (simp only [List.getElem?_toArray]; rfl)) (fun K hK => ?_) AllReadyL.nil
        go_simp
        obtain ⟨W_2, hw_, sw_, hv_, kw_⟩ := blocks1 W_1 (.cells #[.int .i64 0, .int .i64 0, .bool false, .int .i64 0, .slice none 0 0, .slice none 0 0, .slice none 0 0] 78)
        rw [← hw_]
        clear hw_
        have hgl_ : W_1.heap.size < W_2.heap.size := by omega
        have hg0_ : W.heap.size ≤ W_1.heap.size := Nat.le_trans hBW hS.2.size
        have hgX := Lib.hid (show BlkIs W_1.heap.size #[.int .i64 0, .int .i64 0, .bool false, .int .i64 0, .slice none 0 0, .slice none 0 0, .slice none 0 0] 78 W_2 from hv_)
        clear hv_ sw_
        replace R2 := Lib.hid (R2.out.box kw_ W_2.heap.size)
        replace S2 := Lib.hid (S2.out.box kw_ W_2.heap.size)
        have hRK : Below W.heap.size W W_2 := hS.2.trans (kw_.mono (Nat.le_trans hBW hS.2.size))
        clear hS
        have hS := KeptB.of hRK
        clear hRK
        clear kw_
        refine hK.out _ _ (fun _ => hS) ?_
        clear hK K
        try simp only [Act.put, List.setIfInBounds_toArray, List.set]
        refine wpAnyL_ready (rs := [13]) (by kernel_rfl) (by simp) ?_
        refine AllReadyL.cons (o := _) (by (simp only [List.getElem?_toArray]; rfl)) (fun K hK => ?_) AllReadyL.nil
        have zq_ := hgX.out
        unfold BlkIs at zq_
        have cq_ := cell_of_block zq_
        have fq_ := unfrozen_of_block zq_
        have lq_ := lt_of_block zq_
        go_simp
        obtain ⟨Q1, hV_, sV_, x9, oV_, kV_⟩ := stored7 W_2 (W_1.heap.size) _ _ _ _ _ _ _ (.int .i64 r2.me) (.int .i64 r2.view) (.bool r2.live) (.int .i64 r2.nx) (.slice r2.ta r2.tk.length r2.tc) (.slice r2.ha r2.hd.length r2.hc) (.slice r2.da r2.dn.length r2.dc) zq_
        rw [← hV_]
        clear hV_
        replace R2 := Lib.hid (Rob.weak (X' := X1) (R2.out.stored sV_ oV_ (by first | exact .inr ⟨hg0_, hgl_⟩ | exact .inr ⟨Nat.le_refl _, hgl_⟩)) (by first | exact fun b hb => .inl hb | exact fun b hb => .inl (.inl hb)))
        replace S2 := Lib.hid (Rob.weak (X' := X1) (S2.out.stored sV_ oV_ (by first | exact .inr ⟨hg0_, hgl_⟩ | exact .inr ⟨Nat.le_refl _, hgl_⟩)) (by first | exact fun b hb => .inl hb | exact fun b hb => .inl (.inl hb)))
        have KQ := Lib.hid (hS.2.trans (kV_.mono hg0_))
        replace hS := KeptB.of KQ.out
        clear zq_ cq_ fq_ lq_ kV_ oV_ sV_ hgX
        refine hK.out _ _ (fun _ => hS) ?_
        clear hK K
        try simp only [Act.put, List.setIfInBounds_toArray, List.set]
        refine wpAnyL_take (i := 14) (oi := _) (v := ?_) (by (simp only [List.getElem?_toArray]; rfl)) (by kernel_rfl) (by kernel_rfl) (by kernel_rfl) (by kernel_rfl) (by exact fun _ _ _ h => h) (Or.inl ⟨by rfl, ?_⟩) (by assumption) ?_
        rotate_left
        ·
         intro wS hSw
         go_simp
         all_goals first | with_reducible rfl | rw [if_neg (by omega)]
        simp only [Act.put, List.setIfInBounds_toArray, List.set]
        refine wpAnyL_done (by kernel_rfl) ?_ _
        clear hS hgl_
        clear cx fx lx cy fy ly cz fz lz
        have lz_ := lt_of_block z
        have ly_ := lt_of_block y
        replace x := carryB KQ.out (lt_of_block x) x
        replace y := carryB KQ.out ly_ y
        replace z := carryB KQ.out lz_ z
        rw [← EA.out] at x
        replace K := below_next K KQ.out
        replace hs := Nat.le_trans hs KQ.out.size
        clear KQ lz_ ly_
        have cx := cell_of_block x
        have fx := unfrozen_of_block x
        have lx := lt_of_block x
        have cy := cell_of_block y
        have fy := unfrozen_of_block y
        have ly := lt_of_block y
        have cz := cell_of_block z
        have fz := unfrozen_of_block z
        have lz := lt_of_block z
        have cx9 := cell_of_block x9
        have fx9 := unfrozen_of_block x9
        have lx9 := lt_of_block x9
        go_wp2_with fail
        refine (l6Set_c X1 (T + 5) D u r2 _ sy Q1 (hbx _ _ K HO.out) (HF.out.more (by omega) (by omega)) R2.out F2.out S2.out.out MF2.out (by have := LN2.out; omega) (fun b hb => Nat.lt_of_lt_of_le (hlt b hb) hs)).mono ?_
        rintro e V5 ⟨u2, qe, rfl, hu2, hf2, k1_⟩
        clear cx fx lx cy fy ly cz fz lz cx9 fx9 lx9
        clear R2 F2 S2 MF2 LN2
        clear x y
        have U2 := Lib.hid hu2
        have F2 := Lib.hid hf2
        clear hu2 hf2
        replace z := carryB k1_ (lt_of_block z) z
        replace K := below_next K k1_
        replace hs := Nat.le_trans hs k1_.size
        clear k1_
        have cz := cell_of_block z
        have fz := unfrozen_of_block z
        have lz := lt_of_block z
        go_wp2_with fail
        refine bodyPost_ret (v := .tuple #[.agg #[.int .i64 u2.bad, .slice u2.ra u2.rp.length u2.rc, .slice u2.sa u2.sd.length u2.sc], .bool qe]) (by simp [results, Try.results78, go_sem, cz]) rfl ?_
        refine ⟨u2, qe, rfl, Rob.weak (X := X1) ?_ hsub, F2.out.more (by omega) (by omega), (by repeat' (first | with_reducible exact Below.refl _ _ | with_reducible assumption | with_reducible refine Below.alloc ?_ ?_ _ | with_reducible refine Below.drew ?_ | with_reducible refine Below.setCell ?_ ?_ _ | omega | (simp; omega) | (simp; done)))⟩
        have hR := U2.out
        repeat' (first | with_reducible exact hR | refine Rob.setX ?_ (hin _ (by simp only; omega) (by simp only; omega)) _)
       refine AllReadyL.cons (o := _) (by (simp only [List.getElem?_toArray]; rfl)) (fun K hK => ?_) ?_
       ·
        skip
        go_simp
        obtain ⟨W_1, hw_, sw_, hv_, kw_⟩ := blocks1 W_0 (.cells #[.int .i64 0, .int .i64 0, .bool false, .int .i64 0, .slice none 0 0, .slice none 0 0, .slice none 0 0] 78)
        rw [← hw_]
        clear hw_
        have hgl_ : W_0.heap.size < W_1.heap.size := by omega
        have hg0_ : W.heap.size ≤ W_0.heap.size := Nat.le_trans hBW hS.2.size
        have hgX := Lib.hid (show BlkIs W_0.heap.size #[.int .i64 0, .int .i64 0, .bool false, .int .i64 0, .slice none 0 0, .slice none 0 0, .slice none 0 0] 78 W_1 from hv_)
        clear hv_ sw_
        have hRK : Below W.heap.size W W_1 := hS.2.trans (kw_.mono (Nat.le_trans hBW hS.2.size))
        clear hS
        have hS := KeptB.of hRK
        clear hRK
        clear kw_
        refine hK.out _ _ (fun _ => hS) ?_
        clear hK K
        try simp only [Act.put, List.setIfInBounds_toArray, List.set]
        refine wpAnyL_ready (rs := [8]) (by kernel_rfl) (by simp) ?_
        refine AllReadyL.cons (o := _) (by (simp only [List.getElem?_toArray]; rfl)) (fun K hK => ?_) AllReadyL.nil
        go_simp
        refine (l5Turns_c (Bx X1 W.heap.size W_1.heap.size) T D r _ u.sd W_1 (RO.out.box hS.2 _) RF.out ((HSX.out W_1 (KW.out.trans (hS.2.mono KW.out.size))).2.2) HF.out.ms (by omega) (Bx.lt (fun b hb => Nat.lt_of_lt_of_le (hlt b hb) hs) hS.2.size) (by omega)).mono ?_
        rintro e W_2 ⟨r2, a2, c2, sy, rfl, hr2, hf2, hsy2, hmf2, hln2, kw_⟩
        have hRK : Below W.heap.size W W_2 := hS.2.trans (kw_.mono (Nat.le_trans hBW hS.2.size))
        clear hS
        have hS := KeptB.of hRK
        clear hRK
        replace hgX := Lib.hid (hgX.out.below kw_)
        clear kw_
        have R2 := Lib.hid hr2
        have F2 := Lib.hid hf2
        have S2 := Lib.hid hsy2
        have MF2 := Lib.hid hmf2
        have LN2 := Lib.hid hln2
        clear hr2 hf2 hsy2 hmf2 hln2
        refine hK.out _ _ (fun _ => hS) ?_
        clear hK K
        try simp only [Act.put, List.setIfInBounds_toArray, List.set]
        refine wpAnyL_take (i := 9) (oi := _) (v := ?_) (by (simp only [List.getElem?_toArray]; rfl)) (by kernel_rfl) (by kernel_rfl) (by kernel_rfl) (by kernel_rfl) (by exact fun _ _ _ h => h) (Or.inl ⟨by rfl, ?_⟩) (by assumption) ?_
        rotate_left
        ·
         intro wS hSw
         go_simp
         all_goals first | with_reducible rfl | rw [if_neg (by omega)]
        simp only [Act.put, List.setIfInBounds_toArray, List.set]
        refine wpAnyL_take (i := 10) (oi := _) (v := ?_) (by (simp only [List.getElem?_toArray]; rfl)) (by kernel_rfl) (by kernel_rfl) (by kernel_rfl) (by kernel_rfl) (by exact fun _ _ _ h => h) (Or.inl ⟨by rfl, ?_⟩) (by assumption) ?_
        rotate_left
        ·
         intro wS hSw
         go_simp
         all_goals first | with_reducible rfl | rw [if_neg (by omega)]
        simp only [Act.put, List.setIfInBounds_toArray, List.set]
        refine wpAnyL_take (i := 11) (oi := _) (v := ?_) (by (simp only [List.getElem?_toArray]; rfl)) (by kernel_rfl) (by kernel_rfl) (by kernel_rfl) (by kernel_rfl) (by exact fun _ _ _ h => h) (Or.inl ⟨by rfl, ?_⟩) (by assumption) ?_
        rotate_left
        ·
         intro wS hSw
         go_simp
         all_goals first | with_reducible rfl | rw [if_neg (by omega)]
        simp only [Act.put, List.setIfInBounds_toArray, List.set]
        refine wpAnyL_ready (rs := [13]) (by kernel_rfl) (by simp) ?_
        refine AllReadyL.cons (o := _) (by (simp only [List.getElem?_toArray]; rfl)) (fun K hK => ?_) AllReadyL.nil
        have zq_ := hgX.out
        unfold BlkIs at zq_
        have cq_ := cell_of_block zq_
        have fq_ := unfrozen_of_block zq_
        have lq_ := lt_of_block zq_
        go_simp
        obtain ⟨Q1, hV_, sV_, x9, oV_, kV_⟩ := stored7 W_2 (W_0.heap.size) _ _ _ _ _ _ _ (.int .i64 r2.me) (.int .i64 r2.view) (.bool r2.live) (.int .i64 r2.nx) (.slice r2.ta r2.tk.length r2.tc) (.slice r2.ha r2.hd.length r2.hc) (.slice r2.da r2.dn.length r2.dc) zq_
        rw [← hV_]
        clear hV_
        replace R2 := Lib.hid (Rob.weak (X' := X1) (R2.out.stored sV_ oV_ (by first | exact .inr ⟨hg0_, hgl_⟩ | exact .inr ⟨Nat.le_refl _, hgl_⟩)) (by first | exact fun b hb => .inl hb | exact fun b hb => .inl (.inl hb)))
        replace S2 := Lib.hid (Rob.weak (X' := X1) (S2.out.stored sV_ oV_ (by first | exact .inr ⟨hg0_, hgl_⟩ | exact .inr ⟨Nat.le_refl _, hgl_⟩)) (by first | exact fun b hb => .inl hb | exact fun b hb => .inl (.inl hb)))
        have KQ := Lib.hid (hS.2.trans (kV_.mono hg0_))
        replace hS := KeptB.of KQ.out
        clear zq_ cq_ fq_ lq_ kV_ oV_ sV_ hgX
        refine hK.out _ _ (fun _ => hS) ?_
        clear hK K
        try simp only [Act.put, List.setIfInBounds_toArray, List.set]
        refine wpAnyL_take (i := 14) (oi := _) (v := ?_) (by (simp only [List.getElem?_toArray]; rfl)) (by kernel_rfl) (by kernel_rfl) (by kernel_rfl) (by kernel_rfl) (by exact fun _ _ _ h => h) (Or.inl ⟨by rfl, ?_⟩) (by assumption) ?_
        rotate_left
        ·
         intro wS hSw
         go_simp
         all_goals first | with_reducible rfl | rw [if_neg (by omega)]
        simp only [Act.put, List.setIfInBounds_toArray, List.set]
        refine wpAnyL_done (by kernel_rfl) ?_ _
        clear hS hgl_
        clear cx fx lx cy fy ly cz fz lz
        have lz_ := lt_of_block z
        have ly_ := lt_of_block y
        replace x := carryB KQ.out (lt_of_block x) x
        replace y := carryB KQ.out ly_ y
        replace z := carryB KQ.out lz_ z
        rw [← EA.out] at x
        replace K := below_next K KQ.out
        replace hs := Nat.le_trans hs KQ.out.size
        clear KQ lz_ ly_
        have cx := cell_of_block x
        have fx := unfrozen_of_block x
        have lx := lt_of_block x
        have cy := cell_of_block y
        have fy := unfrozen_of_block y
        have ly := lt_of_block y
        have cz := cell_of_block z
        have fz := unfrozen_of_block z
        have lz := lt_of_block z
        have cx9 := cell_of_block x9
        have fx9 := unfrozen_of_block x9
        have lx9 := lt_of_block x9
        go_wp2_with fail
        refine (l6Set_c X1 (T + 5) D u r2 _ sy Q1 (hbx _ _ K HO.out) (HF.out.more (by omega) (by omega)) R2.out F2.out S2.out.out MF2.out (by have := LN2.out; omega) (fun b hb => Nat.lt_of_lt_of_le (hlt b hb) hs)).mono ?_
        rintro e V5 ⟨u2, qe, rfl, hu2, hf2, k1_⟩
        clear cx fx lx cy fy ly cz fz lz cx9 fx9 lx9
        clear R2 F2 S2 MF2 LN2
        clear x y
        have U2 := Lib.hid hu2
        have F2 := Lib.hid hf2
        clear hu2 hf2
        replace z := carryB k1_ (lt_of_block z) z
        replace K := below_next K k1_
        replace hs := Nat.le_trans hs k1_.size
        clear k1_
        have cz := cell_of_block z
        have fz := unfrozen_of_block z
        have lz := lt_of_block z
        go_wp2_with fail
        refine bodyPost_ret (v := .tuple #[.agg #[.int .i64 u2.bad, .slice u2.ra u2.rp.length u2.rc, .slice u2.sa u2.sd.length u2.sc], .bool qe]) (by simp [results, Try.results78, go_sem, cz]) rfl ?_
        refine ⟨u2, qe, rfl, Rob.weak (X := X1) ?_ hsub, F2.out.more (by omega) (by omega), (by repeat' (first | with_reducible exact Below.refl _ _ | with_reducible assumption | with_reducible refine Below.alloc ?_ ?_ _ | with_reducible refine Below.drew ?_ | with_reducible refine Below.setCell ?_ ?_ _ | omega | (simp; omega) | (simp; done)))⟩
        have hR := U2.out
        repeat' (first | with_reducible exact hR | refine Rob.setX ?_ (hin _ (by simp only; omega) (by simp only; omega)) _)
       exact AllReadyL.nil
    | false =>
     cases p4 with
     | true =>
      have cx := cell_of_block x
      have fx := unfrozen_of_block x
      have lx := lt_of_block x
      have cy := cell_of_block y
      have fy := unfrozen_of_block y
      have ly := lt_of_block y
      have cz := cell_of_block z
      have fz := unfrozen_of_block z
      have lz := lt_of_block z
      go_wp2_with fail
      refine (l3Copy_c _ m W (isMg_sl MV.out.1 MV.out.2 (MOX.out W K)) HMF.out).mono ?_
      rintro e V1 ⟨n1, n2, n3, n4, ys, rfl, hN, hsy, k1_⟩
      clear cx fx lx cy fy ly cz fz lz
      have NL := Lib.hid (hN.ofLo (X := X1) (fun b hb => Nat.lt_of_lt_of_le (hlt b hb) hs))
      have FN := Lib.hid (fit_wth (a := n1) (c := n2) (b := n3) (d := n4) HMF.out hsy)
      have hyl : ys.length = m.vs.length := by simpa using congrArg List.length hsy
      have HYL := Lib.hid hyl
      clear hN hsy hyl
      have lx_ := lt_of_block x
      have ly_ := lt_of_block y
      have lz_ := lt_of_block z
      replace x := carryB k1_ lx_ x
      replace y := carryB k1_ ly_ y
      replace z := carryB k1_ lz_ z
      replace K := below_next K k1_
      replace hs := Nat.le_trans hs k1_.size
      clear k1_ lx_ ly_ lz_
      have cx := cell_of_block x
      have fx := unfrozen_of_block x
      have lx := lt_of_block x
      have cy := cell_of_block y
      have fy := unfrozen_of_block y
      have ly := lt_of_block y
      have cz := cell_of_block z
      have fz := unfrozen_of_block z
      have lz := lt_of_block z
      go_upto_region 20 with fail
      obtain ⟨V2, hV_, sV2, l, k1_⟩ := blocks1 V1 (.cells #[.int .i64 m.k, .int .i64 m.f, .int .i64 m.v, .int .i64 m.s, .int .i64 m.r.c, .int .i64 m.r.n, .int .i64 m.r.o, .int .i64 m.r.x, .int .i64 m.r.y, .slice n1 m.cl.length n2, .slice n3 m.vs.length n4] 34)
      rw [← hV_]
      clear hV_
      clear cx fx lx cy fy ly cz fz lz
      have hgW : W.heap.size ≤ V1.heap.size := hs
      replace NL := Lib.hid (NL.out.box k1_ V2.heap.size)
      have hgl : V1.heap.size < V2.heap.size := by omega
      have lx_ := lt_of_block x
      have ly_ := lt_of_block y
      have lz_ := lt_of_block z
      replace x := carryB k1_ lx_ x
      replace y := carryB k1_ ly_ y
      replace z := carryB k1_ lz_ z
      replace K := below_next K k1_
      replace hs := Nat.le_trans hs k1_.size
      clear k1_ lx_ ly_ lz_
      clear sV2
      generalize V1.heap.size = g at *
      have hn1 : ¬ (g = w.heap.size) := by omega
      have hn2 : ¬ (w.heap.size = g) := by omega
      have hn3 : ¬ (g = w.heap.size + 1) := by omega
      have hn4 : ¬ (w.heap.size + 1 = g) := by omega
      have hn5 : ¬ (g = w.heap.size + 1 + 1) := by omega
      have hn6 : ¬ (w.heap.size + 1 + 1 = g) := by omega
      have cx := cell_of_block x
      have fx := unfrozen_of_block x
      have lx := lt_of_block x
      have cy := cell_of_block y
      have fy := unfrozen_of_block y
      have ly := lt_of_block y
      have cz := cell_of_block z
      have fz := unfrozen_of_block z
      have lz := lt_of_block z
      have cl := cell_of_block l
      have fl := unfrozen_of_block l
      have ll := lt_of_block l
      go_upto_region 21 with fail
      obtain ⟨V3, hV_, sV, lV, oV, kV⟩ := stored1 V2 g 1 (.int .i64 u.bad) l
      rw [← hV_]
      clear hV_
      clear cx fx lx cy fy ly cz fz lz cl fl ll
      replace x := (oV _ hn2).trans x
      replace y := (oV _ hn4).trans y
      replace z := (oV _ hn6).trans z
      replace NL := Lib.hid ((NL.out.stored sV oV (.inr ⟨Nat.le_refl _, hgl⟩)).weak (X' := X1) (fun b hb => .inl hb))
      replace K := K.trans (kV.mono (by omega))
      replace hs : W.heap.size ≤ V3.heap.size := by omega
      clear kV oV sV l
      obtain ⟨m2, em2⟩ : ∃ m2 : Mg, m2 = ⟨m.k, u.bad, m.v, m.s, m.r, .slice n1 m.cl.length n2, .slice n3 m.vs.length n4, m.cl, ys⟩ := ⟨_, rfl⟩
      have l : V3.heap[g]? = some (.cells #[.int .i64 m2.k, .int .i64 m2.f, .int .i64 m2.v, .int .i64 m2.s, .int .i64 m2.r.c, .int .i64 m2.r.n, .int .i64 m2.r.o, .int .i64 m2.r.x, .int .i64 m2.r.y, .slice n1 m2.cl.length n2, .slice n3 m2.vs.length n4] 34 (0, 0)) := by
       subst em2
       simpa [HYL.out] using lV
      have MV2 := Lib.hid (show m2.vc = .slice n1 m2.cl.length n2 ∧ m2.vv = .slice n3 m2.vs.length n4 by
       subst em2
       exact ⟨rfl, by simp [HYL.out]⟩)
      have MO2 := Lib.hid (show Rob X1 m2.ok V3 by
       subst em2
       exact NL.out)
      have MF2 := Lib.hid (show m2.fit by
       subst em2
       exact FN.out)
      clear NL FN HYL em2 lV
      obtain ⟨q0, hq0⟩ : ∃ q, (m2.k == 1) = q := ⟨_, rfl⟩
      have cx := cell_of_block x
      have fx := unfrozen_of_block x
      have lx := lt_of_block x
      have cy := cell_of_block y
      have fy := unfrozen_of_block y
      have ly := lt_of_block y
      have cz := cell_of_block z
      have fz := unfrozen_of_block z
      have lz := lt_of_block z
      have cl := cell_of_block l
      have fl := unfrozen_of_block l
      have ll := lt_of_block l
      cases q0 with
      | true =>
       clear cx fx lx cy fy ly cz fz lz
       have cx := cell_of_block x
       have fx := unfrozen_of_block x
       have lx := lt_of_block x
       have cy := cell_of_block y
       have fy := unfrozen_of_block y
       have ly := lt_of_block y
       have cz := cell_of_block z
       have fz := unfrozen_of_block z
       have lz := lt_of_block z
       go_wp2_with fail
       refine bodyPost_ret (v := .tuple #[.agg #[.int .i64 u.bad, .slice u.ra u.rp.length u.rc, .slice u.sa u.sd.length u.sc], .bool false]) (by simp [results, Try.results78, go_sem, cz]) rfl ?_
       exact ⟨u, false, rfl, HO.out.below (by repeat' (first | with_reducible exact Below.refl _ _ | with_reducible assumption | with_reducible refine Below.alloc ?_ ?_ _ | with_reducible refine Below.drew ?_ | with_reducible refine Below.setCell ?_ ?_ _ | omega | (simp; omega) | (simp; done))), HF.out.more (by omega) (by omega), (by repeat' (first | with_reducible exact Below.refl _ _ | with_reducible assumption | with_reducible refine Below.alloc ?_ ?_ _ | with_reducible refine Below.drew ?_ | with_reducible refine Below.setCell ?_ ?_ _ | omega | (simp; omega) | (simp; done)))⟩
      | false =>
       go_wp2_with fail
       refine (l3Ok_c _ m2 V3 (isMg_sl MV2.out.1 MV2.out.2 MO2.out.out) (by have := MF2.out.1.1; omega) (by have := MF2.out.2.1; omega)).mono ?_
       rintro e V4 ⟨q1, rfl, k1_⟩
       clear cx fx lx cy fy ly cz fz lz cl fl ll
       have lx_ := lt_of_block x
       have ly_ := lt_of_block y
       have lz_ := lt_of_block z
       have ll_ := lt_of_block l
       replace x := carryB k1_ lx_ x
       replace y := carryB k1_ ly_ y
       replace z := carryB k1_ lz_ z
       replace l := carryB k1_ ll_ l
       replace MO2 := Lib.hid (MO2.out.below k1_)
       replace K := below_next K k1_
       replace hs := Nat.le_trans hs k1_.size
       clear k1_ lx_ ly_ lz_ ll_
       cases q1 with
       | false =>
        have cl := cell_of_block l
        have fl := unfrozen_of_block l
        have ll := lt_of_block l
        have cx := cell_of_block x
        have fx := unfrozen_of_block x
        have lx := lt_of_block x
        have cy := cell_of_block y
        have fy := unfrozen_of_block y
        have ly := lt_of_block y
        have cz := cell_of_block z
        have fz := unfrozen_of_block z
        have lz := lt_of_block z
        go_wp2_with fail
        refine bodyPost_ret (v := .tuple #[.agg #[.int .i64 u.bad, .slice u.ra u.rp.length u.rc, .slice u.sa u.sd.length u.sc], .bool false]) (by simp [results, Try.results78, go_sem, cz]) rfl ?_
        exact ⟨u, false, rfl, HO.out.below (by repeat' (first | with_reducible exact Below.refl _ _ | with_reducible assumption | with_reducible refine Below.alloc ?_ ?_ _ | with_reducible refine Below.drew ?_ | with_reducible refine Below.setCell ?_ ?_ _ | omega | (simp; omega) | (simp; done))), HF.out.more (by omega) (by omega), (by repeat' (first | with_reducible exact Below.refl _ _ | with_reducible assumption | with_reducible refine Below.alloc ?_ ?_ _ | with_reducible refine Below.drew ?_ | with_reducible refine Below.setCell ?_ ?_ _ | omega | (simp; omega) | (simp; done)))⟩
       | true =>
        have cx := cell_of_block x
        have fx := unfrozen_of_block x
        have lx := lt_of_block x
        have cy := cell_of_block y
        have fy := unfrozen_of_block y
        have ly := lt_of_block y
        have cz := cell_of_block z
        have fz := unfrozen_of_block z
        have lz := lt_of_block z
        have cl := cell_of_block l
        have fl := unfrozen_of_block l
        have ll := lt_of_block l
        go_wp2_with fail
        refine (l3Has_c _ _ u.sd m2 V4 (HSX.out V4 K).2.2 (isMg_sl MV2.out.1 MV2.out.2 MO2.out.out)).mono ?_
        rintro e V5 ⟨rfl, k1_⟩
        clear cx fx lx cy fy ly cz fz lz cl fl ll
        have lx_ := lt_of_block x
        have ly_ := lt_of_block y
        have lz_ := lt_of_block z
        have ll_ := lt_of_block l
        replace x := carryB k1_ lx_ x
        replace y := carryB k1_ ly_ y
        replace z := carryB k1_ lz_ z
        replace l := carryB k1_ ll_ l
        replace MO2 := Lib.hid (MO2.out.below k1_)
        replace K := below_next K k1_
        replace hs := Nat.le_trans hs k1_.size
        clear k1_ lx_ ly_ lz_ ll_
        generalize hasM u.sd m2 = q2
        cases q2 with
        | true =>
         have cl := cell_of_block l
         have fl := unfrozen_of_block l
         have ll := lt_of_block l
         have cx := cell_of_block x
         have fx := unfrozen_of_block x
         have lx := lt_of_block x
         have cy := cell_of_block y
         have fy := unfrozen_of_block y
         have ly := lt_of_block y
         have cz := cell_of_block z
         have fz := unfrozen_of_block z
         have lz := lt_of_block z
         go_wp2_with fail
         refine bodyPost_ret (v := .tuple #[.agg #[.int .i64 u.bad, .slice u.ra u.rp.length u.rc, .slice u.sa u.sd.length u.sc], .bool false]) (by simp [results, Try.results78, go_sem, cz]) rfl ?_
         exact ⟨u, false, rfl, HO.out.below (by repeat' (first | with_reducible exact Below.refl _ _ | with_reducible assumption | with_reducible refine Below.alloc ?_ ?_ _ | with_reducible refine Below.drew ?_ | with_reducible refine Below.setCell ?_ ?_ _ | omega | (simp; omega) | (simp; done))), HF.out.more (by omega) (by omega), (by repeat' (first | with_reducible exact Below.refl _ _ | with_reducible assumption | with_reducible refine Below.alloc ?_ ?_ _ | with_reducible refine Below.drew ?_ | with_reducible refine Below.setCell ?_ ?_ _ | omega | (simp; omega) | (simp; done)))⟩
        | false =>
         have cx := cell_of_block x
         have fx := unfrozen_of_block x
         have lx := lt_of_block x
         have cy := cell_of_block y
         have fy := unfrozen_of_block y
         have ly := lt_of_block y
         have cz := cell_of_block z
         have fz := unfrozen_of_block z
         have lz := lt_of_block z
         have cl := cell_of_block l
         have fl := unfrozen_of_block l
         have ll := lt_of_block l
         go_wp2_with fail
         obtain ⟨V6, hV_, sV4, s, k1_⟩ := blocks1 V5 (.cells #[.int .i64 m2.k, .int .i64 m2.f, .int .i64 m2.v, .int .i64 m2.s, .int .i64 m2.r.c, .int .i64 m2.r.n, .int .i64 m2.r.o, .int .i64 m2.r.x, .int .i64 m2.r.y, .slice n1 m2.cl.length n2, .slice n3 m2.vs.length n4] 34)
         rw [← hV_]
         clear hV_ sV4
         clear cx fx lx cy fy ly cz fz lz cl fl ll
         have lx_ := lt_of_block x
         have ly_ := lt_of_block y
         have lz_ := lt_of_block z
         have ll_ := lt_of_block l
         replace x := carryB k1_ lx_ x
         replace y := carryB k1_ ly_ y
         replace z := carryB k1_ lz_ z
         replace l := carryB k1_ ll_ l
         replace MO2 := Lib.hid (MO2.out.below k1_)
         replace K := below_next K k1_
         replace hs := Nat.le_trans hs k1_.size
         clear k1_ lx_ ly_ lz_ ll_
         have hs2 := s
         rw [← flat_m MV2.out.1 MV2.out.2] at hs2
         refine (l6Say_c X1 T D u _ [m2] V6 (hbx _ _ K HO.out) HF.out (isMs_one (sl_of_block (R := Mg.cs) (zs := [m2]) eleven_len hs2 rfl (by simp)) MO2.out.out) (fit_one MF2.out) (by simp) (fun b hb => Nat.lt_of_lt_of_le (hlt b hb) hs)).mono ?_
         rintro e V7 ⟨u2, qe, rfl, hu2, hf2, k1_⟩
         clear l s hs2 MO2
         clear x y
         have U2 := Lib.hid hu2
         have F2 := Lib.hid hf2
         clear hu2 hf2
         replace z := carryB k1_ (lt_of_block z) z
         replace K := below_next K k1_
         replace hs := Nat.le_trans hs k1_.size
         clear k1_
         have cz := cell_of_block z
         have fz := unfrozen_of_block z
         have lz := lt_of_block z
         go_wp2_with fail
         refine bodyPost_ret (v := .tuple #[.agg #[.int .i64 u2.bad, .slice u2.ra u2.rp.length u2.rc, .slice u2.sa u2.sd.length u2.sc], .bool qe]) (by simp [results, Try.results78, go_sem, cz]) rfl ?_
         refine ⟨u2, qe, rfl, Rob.weak (X := X1) ?_ hsub, F2.out.more (by omega) (by omega), (by repeat' (first | with_reducible exact Below.refl _ _ | with_reducible assumption | with_reducible refine Below.alloc ?_ ?_ _ | with_reducible refine Below.drew ?_ | with_reducible refine Below.setCell ?_ ?_ _ | omega | (simp; omega) | (simp; done)))⟩
         have hR := U2.out
         repeat' (first | with_reducible exact hR | refine Rob.setX ?_ (hin _ (by simp only; omega) (by simp only; omega)) _)
     | false =>
      have cx := cell_of_block x
      have fx := unfrozen_of_block x
      have lx := lt_of_block x
      have cy := cell_of_block y
      have fy := unfrozen_of_block y
      have ly := lt_of_block y
      have cz := cell_of_block z
      have fz := unfrozen_of_block z
      have lz := lt_of_block z
      go_wp2_with fail
      refine bodyPost_ret (v := .tuple #[.agg #[.int .i64 u.bad, .slice u.ra u.rp.length u.rc, .slice u.sa u.sd.length u.sc], .bool false]) (by simp [results, Try.results78, go_sem, cz]) rfl ?_
      exact ⟨u, false, rfl, HO.out.below (by repeat' (first | with_reducible exact Below.refl _ _ | with_reducible assumption | with_reducible refine Below.alloc ?_ ?_ _ | with_reducible refine Below.drew ?_ | with_reducible refine Below.setCell ?_ ?_ _ | omega | (simp; omega) | (simp; done))), HF.out.more (by omega) (by omega), (by repeat' (first | with_reducible exact Below.refl _ _ | with_reducible assumption | with_reducible refine Below.alloc ?_ ?_ _ | with_reducible refine Below.drew ?_ | with_reducible refine Below.setCell ?_ ?_ _ | omega | (simp; omega) | (simp; done)))⟩
end Go.Proofs.Ytgdhieffjflejaa
