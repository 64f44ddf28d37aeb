/- Keepers that take something, or note a letter (l5Take, l5Note); condition: small sizes. -/
import Derived.Test.YtgdhieffjflejaaRobX
set_option linter.unusedSimpArgs false
set_option linter.unusedVariables false
namespace Go.Proofs.Ytgdhieffjflejaa
open Go.RowKit Go.Joins


set_option maxRecDepth 100000 in
set_option maxHeartbeats 8000000 in
theorem l5Take_c (X : Nat → Prop) (T D : Nat) (r : Rk) (c : Cl) (w : World) (h : Rob X r.ok w) (hf : r.fit T D) (hX : ∀ b, X b → b < w.heap.size) (hT : T ≤ 1000000) :
    Calls Try.prog 102 #[.agg #[.int .i64 r.me, .int .i64 r.view, .bool r.live, .int .i64 r.nx, .slice r.ta r.tk.length r.tc, .slice r.ha r.hd.length r.hc, .slice r.da r.dn.length r.dc], .agg #[.int .i64 c.s, .int .i64 c.v, .int .i64 c.r.c, .int .i64 c.r.n, .int .i64 c.r.o, .int .i64 c.r.x, .int .i64 c.r.y]] w (KeepGot X (T + 1) D w) := by
  have HO := Lib.hid h
  have HF := Lib.hid hf
  have HT := Lib.hid (h.out.1.bounds.2.2.2)
  have ht : r.tk.length ≤ 1000000 := Nat.le_trans hf.tk hT
  clear h hf
  go_enter Try.func102, Try.ntmps102
  go_upto_region 1 with fail
  obtain ⟨W, hW_, sW, x, y, z, kW⟩ := blocks3 w (.cells #[.int .i64 r.me, .int .i64 r.view, .bool r.live, .int .i64 r.nx, .slice r.ta r.tk.length r.tc, .slice r.ha r.hd.length r.hc, .slice r.da r.dn.length r.dc] 78) (.cells #[.int .i64 c.s, .int .i64 c.v, .int .i64 c.r.c, .int .i64 c.r.n, .int .i64 c.r.o, .int .i64 c.r.x, .int .i64 c.r.y] 62) (.cells #[.int .i64 0, .int .i64 0, .bool false, .int .i64 0, .slice none 0 0, .slice none 0 0, .slice none 0 0] 78)
  rw [← hW_]
  clear hW_
  have hsW : w.heap.size + 3 ≤ W.heap.size := by omega
  clear sW
  have hBW := Nat.le_refl W.heap.size
  have cx := cell_of_block x
  have fx := unfrozen_of_block x
  have lx := lt_of_block x
  have cy := cell_of_block y
  have fy := unfrozen_of_block y
  have ly := lt_of_block y
  have cz := cell_of_block z
  have fz := unfrozen_of_block z
  have lz := lt_of_block z
  refine wp_region_L (fun w' => ((∀ b o, b < W.heap.size → (w').cell? ⟨b, o, none⟩ = (W).cell? ⟨b, o, none⟩) ∧ Below (W.heap.size) (W) (w'))) [8] (by kernel_rfl) ?_
  obtain ⟨W_0, hw_, kw_⟩ : ∃ wd, wd = W.drew ∧ Below W.heap.size W wd := ⟨_, rfl, Below.drew (Below.refl _ _)⟩
  rw [← hw_]
  clear hw_
  have hS := KeptB.of (kw_.mono hBW)
  clear kw_
  refine wpAnyL_take (i := 1) (oi := _) (v := ?_) (by (simp only [List.getElem?_toArray]; rfl)) (by kernel_rfl) (by kernel_rfl) (by kernel_rfl) (by kernel_rfl) (by exact fun _ _ _ h => h) (Or.inl ⟨by rfl, ?_⟩) (by assumption) ?_
  rotate_left
  · intro wS hSw
    go_simp
    all_goals first | with_reducible rfl | rw [if_neg (by omega)]
  simp only [Act.put, List.setIfInBounds_toArray, List.set]
  refine wpAnyL_take (i := 2) (oi := _) (v := ?_) (by (simp only [List.getElem?_toArray]; rfl)) (by kernel_rfl) (by kernel_rfl) (by kernel_rfl) (by kernel_rfl) (by exact fun _ _ _ h => h) (Or.inl ⟨by rfl, ?_⟩) (by assumption) ?_
  rotate_left
  · intro wS hSw
    go_simp
    all_goals first | with_reducible rfl | rw [if_neg (by omega)]
  simp only [Act.put, List.setIfInBounds_toArray, List.set]
  refine wpAnyL_take (i := 4) (oi := _) (v := ?_) (by (simp only [List.getElem?_toArray]; rfl)) (by kernel_rfl) (by kernel_rfl) (by kernel_rfl) (by kernel_rfl) (by exact fun _ _ _ h => h) (Or.inl ⟨by rfl, ?_⟩) (by assumption) ?_
  rotate_left
  · intro wS hSw
    go_simp
    all_goals first | with_reducible rfl | rw [if_neg (by omega)]
  simp only [Act.put, List.setIfInBounds_toArray, List.set]
  refine wpAnyL_ready (rs := [0, 5]) (by kernel_rfl) (by simp) ?_
  refine AllReadyL.cons (o := _) (by (simp only [List.getElem?_toArray]; rfl)) (fun K hK => ?_) ?_
  · skip
    refine step_build0M (by rfl) (by rfl) elmCl ?_
    obtain ⟨W_1, hw_, kw_⟩ : ∃ V, V = W_0.alloc (.cells #[] 62) ∧ Below W_0.heap.size W_0 V := ⟨_, rfl, (Below.refl _ _).alloc (Nat.le_refl _) _⟩
    rw [← hw_]
    clear hw_
    have hRK : Below W.heap.size W W_1 := hS.2.trans (kw_.mono (Nat.le_trans hBW hS.2.size))
    clear hS
    have hS := KeptB.of hRK
    clear hRK
    clear kw_
    refine hK.out _ _ (fun _ => hS) ?_
    clear hK K
    try simp only [Act.put, List.setIfInBounds_toArray, List.set]
    refine wpAnyL_ready (rs := [3, 5]) (by kernel_rfl) (by simp) ?_
    refine AllReadyL.cons (o := _) (by (simp only [List.getElem?_toArray]; rfl)) (fun K hK => ?_) ?_
    · skip
      refine step_append_newM W_1.heap.size (by rfl) (.tmp 5) (.tmp 7) (by rfl) elmCl (by rfl) (by rfl) (fun z _ => cl_one z) ((HT.out.below (kW.trans (hS.2.mono kW.size)))) rfl (by simp only [maxLen]; omega) (by omega) (Nat.le_refl _) ?_
      intro a1 c1 W_2 q_
      have hq_ : W.heap.size ≤ W_1.heap.size := Nat.le_trans hBW hS.2.size
      have kw_ := q_.below
      have hRK : Below W.heap.size W W_2 := hS.2.trans (kw_.mono (Nat.le_trans hBW hS.2.size))
      clear hS
      have hS := KeptB.of hRK
      clear hRK
      clear kw_
      have RT := Lib.hid (q_.row.low hq_)
      clear q_ hq_
      refine hK.out _ _ (fun _ => hS) ?_
      clear hK K
      try simp only [Act.put, List.setIfInBounds_toArray, List.set]
      refine wpAnyL_ready (rs := [5]) (by kernel_rfl) (by simp) ?_
      refine AllReadyL.cons (o := _) (by (simp only [List.getElem?_toArray]; rfl)) (fun K hK => ?_) AllReadyL.nil
      go_simp
      obtain ⟨W_3, hw_, sw_, hv_, kw_⟩ := blocks1 W_2 (.cells #[.int .i64 c.s, .int .i64 c.v, .int .i64 c.r.c, .int .i64 c.r.n, .int .i64 c.r.o, .int .i64 c.r.x, .int .i64 c.r.y] 62)
      rw [← hw_]
      clear hw_ sw_
      have hRK : Below W.heap.size W W_3 := hS.2.trans (kw_.mono (Nat.le_trans hBW hS.2.size))
      clear hS
      have hS := KeptB.of hRK
      clear hRK
      replace RT := Lib.hid (RT.out.below kw_)
      clear kw_
      have RV := Lib.hid (show RowsAt W_3 (some ⟨W_2.heap.size, 0, none⟩) 7 Cl.cs [c] from rows_of_block (R := Cl.cs) (zs := [c]) (fun _ => rfl) hv_)
      clear hv_
      refine hK.out _ _ (fun _ => hS) ?_
      clear hK K
      try simp only [Act.put, List.setIfInBounds_toArray, List.set]
      refine wpAnyL_ready (rs := [6]) (by kernel_rfl) (by simp) ?_
      refine AllReadyL.cons (o := _) (by (simp only [List.getElem?_toArray]; rfl)) (fun K hK => ?_) AllReadyL.nil
      refine step_append_elm (by rfl) (.tmp 8) (.tmp 10) (by rfl) (r.tk.length + 1) elmCl (by rfl) (by rfl) RT.out (fun z _ => cl_one z) RV.out rfl rfl rfl (by simp only [maxLen]; omega) (by omega) (Nat.le_trans hBW hS.2.size) ?_
      intro a2 c2 W_4 q_
      have hrb_ : ∀ g, rowBlk _ _ = some g → W.heap.size ≤ g := fun g hg => (RT.out.blk hg).1
      have hRK : Below W.heap.size W W_4 := hS.2.trans (q_.below (B' := W.heap.size) (Nat.le_trans hBW hS.2.size) hrb_)
      clear hS
      have hS := KeptB.of hRK
      clear hRK
      have RT2 := Lib.hid (q_.row)
      clear q_ hrb_
      refine hK.out _ _ (fun _ => hS) ?_
      clear hK K
      try simp only [Act.put, List.setIfInBounds_toArray, List.set]
      refine wpAnyL_take (i := 7) (oi := _) (v := ?_) (by (simp only [List.getElem?_toArray]; rfl)) (by kernel_rfl) (by kernel_rfl) (by kernel_rfl) (by kernel_rfl) (by exact fun _ _ _ h => h) (Or.inl ⟨by rfl, ?_⟩) (by assumption) ?_
      rotate_left
      · intro wS hSw
        go_simp
        all_goals first | with_reducible rfl | rw [if_neg (by omega)]
      simp only [Act.put, List.setIfInBounds_toArray, List.set]
      refine wpAnyL_ready (rs := [8]) (by kernel_rfl) (by simp) ?_
      refine AllReadyL.cons (o := _) (by (simp only [List.getElem?_toArray]; rfl)) (fun K hK => ?_) AllReadyL.nil
      have xq_ := carryB hS.2 lx x
      have yq_ := carryB hS.2 ly y
      have zq_ := carryB hS.2 lz z
      have cq_ := cell_of_block xq_
      have fq_ := unfrozen_of_block xq_
      have lq_ := lt_of_block xq_
      go_simp
      obtain ⟨V, hV_, sV, xV, oV, kV⟩ := stored1 W_4 w.heap.size 4 (.slice a2 (r.tk.length + 1) c2) xq_
      rw [← hV_]
      clear hV_
      have yV := (oV _ (by omega)).trans yq_
      have zV := (oV _ (by omega)).trans zq_
      have RV2 := Lib.hid (RT2.out.later sV oV (by omega))
      have KV := Lib.hid (kW.trans ((hS.2.mono kW.size).trans kV))
      clear xq_ yq_ zq_ cq_ fq_ lq_ oV kV sV hS RT2 cx fx lx cy fy ly cz fz lz
      refine hK.out _ _ (fun h => absurd h (by decide)) ?_
      clear hK K
      try simp only [Act.put, List.setIfInBounds_toArray, List.set]
      refine wpAnyL_done (by kernel_rfl) ?_ _
      have cxV := cell_of_block xV
      have fxV := unfrozen_of_block xV
      have lxV := lt_of_block xV
      have czV := cell_of_block zV
      have fzV := unfrozen_of_block zV
      have lzV := lt_of_block zV
      go_wp2_with fail
      refine bodyPost_ret (v := .agg #[.int .i64 r.me, .int .i64 r.view, .bool r.live, .int .i64 r.nx, .slice a2 (r.tk.length + 1) c2, .slice r.ha r.hd.length r.hc, .slice r.da r.dn.length r.dc]) (by simp [results, Try.results102, go_sem, czV]) rfl ?_
      have KVo := KV.out
      refine ⟨⟨r.me, r.view, r.live, r.nx, a2, c2, r.tk ++ [c], r.ha, r.hc, r.hd, r.da, r.dc, r.dn⟩, by simp, ?_, ⟨HF.out.me0, HF.out.me3, by have := HF.out.tk; simp; omega, HF.out.hd, HF.out.ms, HF.out.dn⟩, (by repeat' (first | with_reducible exact Below.refl _ _ | with_reducible assumption | with_reducible refine Below.alloc ?_ ?_ _ | with_reducible refine Below.drew ?_ | with_reducible refine Below.setCell ?_ ?_ _ | omega | (simp; omega) | (simp; done)))⟩
      have h1 : Rob (Lo W.heap.size) (fun V' => IsSl V' (.slice a2 (r.tk ++ [c]).length c2) 7 Cl.cs (r.tk ++ [c])) V := RV2.out.rob seven_len
      have hXW : ∀ b, X b → b < W.heap.size := fun b hb => Nat.lt_of_lt_of_le (hX b hb) (by omega)
      refine fun V' hV' => ⟨Rob.ofLo (B := W.heap.size) (F := fun V' => IsSl V' (.slice a2 (r.tk ++ [c]).length c2) 7 Cl.cs (r.tk ++ [c])) ?_ hXW V' hV', ((HO.out.below (by repeat' (first | with_reducible exact Below.refl _ _ | with_reducible assumption | with_reducible refine Below.alloc ?_ ?_ _ | with_reducible refine Below.drew ?_ | with_reducible refine Below.setCell ?_ ?_ _ | omega | (simp; omega) | (simp; done)))) V' hV').2⟩
      repeat' (first | with_reducible exact h1 | refine Rob.set ?_ (by simp only; omega) _)
    refine AllReadyL.cons (o := _) (by (simp only [List.getElem?_toArray]; rfl)) (fun K hK => ?_) ?_
    · skip
      go_simp
      obtain ⟨W_2, hw_, sw_, hv_, kw_⟩ := blocks1 W_1 (.cells #[.int .i64 c.s, .int .i64 c.v, .int .i64 c.r.c, .int .i64 c.r.n, .int .i64 c.r.o, .int .i64 c.r.x, .int .i64 c.r.y] 62)
      rw [← hw_]
      clear hw_ sw_
      have hRK : Below W.heap.size W W_2 := hS.2.trans (kw_.mono (Nat.le_trans hBW hS.2.size))
      clear hS
      have hS := KeptB.of hRK
      clear hRK
      clear kw_
      have RV := Lib.hid (show RowsAt W_2 (some ⟨W_1.heap.size, 0, none⟩) 7 Cl.cs [c] from rows_of_block (R := Cl.cs) (zs := [c]) (fun _ => rfl) hv_)
      clear hv_
      refine hK.out _ _ (fun _ => hS) ?_
      clear hK K
      try simp only [Act.put, List.setIfInBounds_toArray, List.set]
      refine wpAnyL_ready (rs := [3]) (by kernel_rfl) (by simp) ?_
      refine AllReadyL.cons (o := _) (by (simp only [List.getElem?_toArray]; rfl)) (fun K hK => ?_) AllReadyL.nil
      refine step_append_newM W_2.heap.size (by rfl) (.tmp 5) (.tmp 7) (by rfl) elmCl (by rfl) (by rfl) (fun z _ => cl_one z) ((HT.out.below (kW.trans (hS.2.mono kW.size)))) rfl (by simp only [maxLen]; omega) (by omega) (Nat.le_refl _) ?_
      intro a1 c1 W_3 q_
      have hq_ : W.heap.size ≤ W_2.heap.size := Nat.le_trans hBW hS.2.size
      have kw_ := q_.below
      have hRK : Below W.heap.size W W_3 := hS.2.trans (kw_.mono (Nat.le_trans hBW hS.2.size))
      clear hS
      have hS := KeptB.of hRK
      clear hRK
      replace RV := Lib.hid (RV.out.below kw_)
      clear kw_
      have RT := Lib.hid (q_.row.low hq_)
      clear q_ hq_
      refine hK.out _ _ (fun _ => hS) ?_
      clear hK K
      try simp only [Act.put, List.setIfInBounds_toArray, List.set]
      refine wpAnyL_ready (rs := [6]) (by kernel_rfl) (by simp) ?_
      refine AllReadyL.cons (o := _) (by (simp only [List.getElem?_toArray]; rfl)) (fun K hK => ?_) AllReadyL.nil
      refine step_append_elm (by rfl) (.tmp 8) (.tmp 10) (by rfl) (r.tk.length + 1) elmCl (by rfl) (by rfl) RT.out (fun z _ => cl_one z) RV.out rfl rfl rfl (by simp only [maxLen]; omega) (by omega) (Nat.le_trans hBW hS.2.size) ?_
      intro a2 c2 W_4 q_
      have hrb_ : ∀ g, rowBlk _ _ = some g → W.heap.size ≤ g := fun g hg => (RT.out.blk hg).1
      have hRK : Below W.heap.size W W_4 := hS.2.trans (q_.below (B' := W.heap.size) (Nat.le_trans hBW hS.2.size) hrb_)
      clear hS
      have hS := KeptB.of hRK
      clear hRK
      have RT2 := Lib.hid (q_.row)
      clear q_ hrb_
      refine hK.out _ _ (fun _ => hS) ?_
      clear hK K
      try simp only [Act.put, List.setIfInBounds_toArray, List.set]
      refine wpAnyL_take (i := 7) (oi := _) (v := ?_) (by (simp only [List.getElem?_toArray]; rfl)) (by kernel_rfl) (by kernel_rfl) (by kernel_rfl) (by kernel_rfl) (by exact fun _ _ _ h => h) (Or.inl ⟨by rfl, ?_⟩) (by assumption) ?_
      rotate_left
      · intro wS hSw
        go_simp
        all_goals first | with_reducible rfl | rw [if_neg (by omega)]
      simp only [Act.put, List.setIfInBounds_toArray, List.set]
      refine wpAnyL_ready (rs := [8]) (by kernel_rfl) (by simp) ?_
      refine AllReadyL.cons (o := _) (by (simp only [List.getElem?_toArray]; rfl)) (fun K hK => ?_) AllReadyL.nil
      have xq_ := carryB hS.2 lx x
      have yq_ := carryB hS.2 ly y
      have zq_ := carryB hS.2 lz z
      have cq_ := cell_of_block xq_
      have fq_ := unfrozen_of_block xq_
      have lq_ := lt_of_block xq_
      go_simp
      obtain ⟨V, hV_, sV, xV, oV, kV⟩ := stored1 W_4 w.heap.size 4 (.slice a2 (r.tk.length + 1) c2) xq_
      rw [← hV_]
      clear hV_
      have yV := (oV _ (by omega)).trans yq_
      have zV := (oV _ (by omega)).trans zq_
      have RV2 := Lib.hid (RT2.out.later sV oV (by omega))
      have KV := Lib.hid (kW.trans ((hS.2.mono kW.size).trans kV))
      clear xq_ yq_ zq_ cq_ fq_ lq_ oV kV sV hS RT2 cx fx lx cy fy ly cz fz lz
      refine hK.out _ _ (fun h => absurd h (by decide)) ?_
      clear hK K
      try simp only [Act.put, List.setIfInBounds_toArray, List.set]
      refine wpAnyL_done (by kernel_rfl) ?_ _
      have cxV := cell_of_block xV
      have fxV := unfrozen_of_block xV
      have lxV := lt_of_block xV
      have czV := cell_of_block zV
      have fzV := unfrozen_of_block zV
      have lzV := lt_of_block zV
      go_wp2_with fail
      refine bodyPost_ret (v := .agg #[.int .i64 r.me, .int .i64 r.view, .bool r.live, .int .i64 r.nx, .slice a2 (r.tk.length + 1) c2, .slice r.ha r.hd.length r.hc, .slice r.da r.dn.length r.dc]) (by simp [results, Try.results102, go_sem, czV]) rfl ?_
      have KVo := KV.out
      refine ⟨⟨r.me, r.view, r.live, r.nx, a2, c2, r.tk ++ [c], r.ha, r.hc, r.hd, r.da, r.dc, r.dn⟩, by simp, ?_, ⟨HF.out.me0, HF.out.me3, by have := HF.out.tk; simp; omega, HF.out.hd, HF.out.ms, HF.out.dn⟩, (by repeat' (first | with_reducible exact Below.refl _ _ | with_reducible assumption | with_reducible refine Below.alloc ?_ ?_ _ | with_reducible refine Below.drew ?_ | with_reducible refine Below.setCell ?_ ?_ _ | omega | (simp; omega) | (simp; done)))⟩
      have h1 : Rob (Lo W.heap.size) (fun V' => IsSl V' (.slice a2 (r.tk ++ [c]).length c2) 7 Cl.cs (r.tk ++ [c])) V := RV2.out.rob seven_len
      have hXW : ∀ b, X b → b < W.heap.size := fun b hb => Nat.lt_of_lt_of_le (hX b hb) (by omega)
      refine fun V' hV' => ⟨Rob.ofLo (B := W.heap.size) (F := fun V' => IsSl V' (.slice a2 (r.tk ++ [c]).length c2) 7 Cl.cs (r.tk ++ [c])) ?_ hXW V' hV', ((HO.out.below (by repeat' (first | with_reducible exact Below.refl _ _ | with_reducible assumption | with_reducible refine Below.alloc ?_ ?_ _ | with_reducible refine Below.drew ?_ | with_reducible refine Below.setCell ?_ ?_ _ | omega | (simp; omega) | (simp; done)))) V' hV').2⟩
      repeat' (first | with_reducible exact h1 | refine Rob.set ?_ (by simp only; omega) _)
    exact AllReadyL.nil
  refine AllReadyL.cons (o := _) (by (simp only [List.getElem?_toArray]; rfl)) (fun K hK => ?_) ?_
  · skip
    go_simp
    obtain ⟨W_1, hw_, sw_, hv_, kw_⟩ := blocks1 W_0 (.cells #[.int .i64 c.s, .int .i64 c.v, .int .i64 c.r.c, .int .i64 c.r.n, .int .i64 c.r.o, .int .i64 c.r.x, .int .i64 c.r.y] 62)
    rw [← hw_]
    clear hw_ sw_
    have hRK : Below W.heap.size W W_1 := hS.2.trans (kw_.mono (Nat.le_trans hBW hS.2.size))
    clear hS
    have hS := KeptB.of hRK
    clear hRK
    clear kw_
    have RV := Lib.hid (show RowsAt W_1 (some ⟨W_0.heap.size, 0, none⟩) 7 Cl.cs [c] from rows_of_block (R := Cl.cs) (zs := [c]) (fun _ => rfl) hv_)
    clear hv_
    refine hK.out _ _ (fun _ => hS) ?_
    clear hK K
    try simp only [Act.put, List.setIfInBounds_toArray, List.set]
    refine wpAnyL_ready (rs := [0]) (by kernel_rfl) (by simp) ?_
    refine AllReadyL.cons (o := _) (by (simp only [List.getElem?_toArray]; rfl)) (fun K hK => ?_) AllReadyL.nil
    refine step_build0M (by rfl) (by rfl) elmCl ?_
    obtain ⟨W_2, hw_, kw_⟩ : ∃ V, V = W_1.alloc (.cells #[] 62) ∧ Below W_1.heap.size W_1 V := ⟨_, rfl, (Below.refl _ _).alloc (Nat.le_refl _) _⟩
    rw [← hw_]
    clear hw_
    have hRK : Below W.heap.size W W_2 := hS.2.trans (kw_.mono (Nat.le_trans hBW hS.2.size))
    clear hS
    have hS := KeptB.of hRK
    clear hRK
    replace RV := Lib.hid (RV.out.below kw_)
    clear kw_
    refine hK.out _ _ (fun _ => hS) ?_
    clear hK K
    try simp only [Act.put, List.setIfInBounds_toArray, List.set]
    refine wpAnyL_ready (rs := [3]) (by kernel_rfl) (by simp) ?_
    refine AllReadyL.cons (o := _) (by (simp only [List.getElem?_toArray]; rfl)) (fun K hK => ?_) AllReadyL.nil
    refine step_append_newM W_2.heap.size (by rfl) (.tmp 5) (.tmp 7) (by rfl) elmCl (by rfl) (by rfl) (fun z _ => cl_one z) ((HT.out.below (kW.trans (hS.2.mono kW.size)))) rfl (by simp only [maxLen]; omega) (by omega) (Nat.le_refl _) ?_
    intro a1 c1 W_3 q_
    have hq_ : W.heap.size ≤ W_2.heap.size := Nat.le_trans hBW hS.2.size
    have kw_ := q_.below
    have hRK : Below W.heap.size W W_3 := hS.2.trans (kw_.mono (Nat.le_trans hBW hS.2.size))
    clear hS
    have hS := KeptB.of hRK
    clear hRK
    replace RV := Lib.hid (RV.out.below kw_)
    clear kw_
    have RT := Lib.hid (q_.row.low hq_)
    clear q_ hq_
    refine hK.out _ _ (fun _ => hS) ?_
    clear hK K
    try simp only [Act.put, List.setIfInBounds_toArray, List.set]
    refine wpAnyL_ready (rs := [6]) (by kernel_rfl) (by simp) ?_
    refine AllReadyL.cons (o := _) (by (simp only [List.getElem?_toArray]; rfl)) (fun K hK => ?_) AllReadyL.nil
    refine step_append_elm (by rfl) (.tmp 8) (.tmp 10) (by rfl) (r.tk.length + 1) elmCl (by rfl) (by rfl) RT.out (fun z _ => cl_one z) RV.out rfl rfl rfl (by simp only [maxLen]; omega) (by omega) (Nat.le_trans hBW hS.2.size) ?_
    intro a2 c2 W_4 q_
    have hrb_ : ∀ g, rowBlk _ _ = some g → W.heap.size ≤ g := fun g hg => (RT.out.blk hg).1
    have hRK : Below W.heap.size W W_4 := hS.2.trans (q_.below (B' := W.heap.size) (Nat.le_trans hBW hS.2.size) hrb_)
    clear hS
    have hS := KeptB.of hRK
    clear hRK
    have RT2 := Lib.hid (q_.row)
    clear q_ hrb_
    refine hK.out _ _ (fun _ => hS) ?_
    clear hK K
    try simp only [Act.put, List.setIfInBounds_toArray, List.set]
    refine wpAnyL_take (i := 7) (oi := _) (v := ?_) (by (simp only [List.getElem?_toArray]; rfl)) (by kernel_rfl) (by kernel_rfl) (by kernel_rfl) (by kernel_rfl) (by exact fun _ _ _ h => h) (Or.inl ⟨by rfl, ?_⟩) (by assumption) ?_
    rotate_left
    · intro wS hSw
      go_simp
      all_goals first | with_reducible rfl | rw [if_neg (by omega)]
    simp only [Act.put, List.setIfInBounds_toArray, List.set]
    refine wpAnyL_ready (rs := [8]) (by kernel_rfl) (by simp) ?_
    refine AllReadyL.cons (o := _) (by (simp only [List.getElem?_toArray]; rfl)) (fun K hK => ?_) AllReadyL.nil
    have xq_ := carryB hS.2 lx x
    have yq_ := carryB hS.2 ly y
    have zq_ := carryB hS.2 lz z
    have cq_ := cell_of_block xq_
    have fq_ := unfrozen_of_block xq_
    have lq_ := lt_of_block xq_
    go_simp
    obtain ⟨V, hV_, sV, xV, oV, kV⟩ := stored1 W_4 w.heap.size 4 (.slice a2 (r.tk.length + 1) c2) xq_
    rw [← hV_]
    clear hV_
    have yV := (oV _ (by omega)).trans yq_
    have zV := (oV _ (by omega)).trans zq_
    have RV2 := Lib.hid (RT2.out.later sV oV (by omega))
    have KV := Lib.hid (kW.trans ((hS.2.mono kW.size).trans kV))
    clear xq_ yq_ zq_ cq_ fq_ lq_ oV kV sV hS RT2 cx fx lx cy fy ly cz fz lz
    refine hK.out _ _ (fun h => absurd h (by decide)) ?_
    clear hK K
    try simp only [Act.put, List.setIfInBounds_toArray, List.set]
    refine wpAnyL_done (by kernel_rfl) ?_ _
    have cxV := cell_of_block xV
    have fxV := unfrozen_of_block xV
    have lxV := lt_of_block xV
    have czV := cell_of_block zV
    have fzV := unfrozen_of_block zV
    have lzV := lt_of_block zV
    go_wp2_with fail
    refine bodyPost_ret (v := .agg #[.int .i64 r.me, .int .i64 r.view, .bool r.live, .int .i64 r.nx, .slice a2 (r.tk.length + 1) c2, .slice r.ha r.hd.length r.hc, .slice r.da r.dn.length r.dc]) (by simp [results, Try.results102, go_sem, czV]) rfl ?_
    have KVo := KV.out
    refine ⟨⟨r.me, r.view, r.live, r.nx, a2, c2, r.tk ++ [c], r.ha, r.hc, r.hd, r.da, r.dc, r.dn⟩, by simp, ?_, ⟨HF.out.me0, HF.out.me3, by have := HF.out.tk; simp; omega, HF.out.hd, HF.out.ms, HF.out.dn⟩, (by repeat' (first | with_reducible exact Below.refl _ _ | with_reducible assumption | with_reducible refine Below.alloc ?_ ?_ _ | with_reducible refine Below.drew ?_ | with_reducible refine Below.setCell ?_ ?_ _ | omega | (simp; omega) | (simp; done)))⟩
    have h1 : Rob (Lo W.heap.size) (fun V' => IsSl V' (.slice a2 (r.tk ++ [c]).length c2) 7 Cl.cs (r.tk ++ [c])) V := RV2.out.rob seven_len
    have hXW : ∀ b, X b → b < W.heap.size := fun b hb => Nat.lt_of_lt_of_le (hX b hb) (by omega)
    refine fun V' hV' => ⟨Rob.ofLo (B := W.heap.size) (F := fun V' => IsSl V' (.slice a2 (r.tk ++ [c]).length c2) 7 Cl.cs (r.tk ++ [c])) ?_ hXW V' hV', ((HO.out.below (by repeat' (first | with_reducible exact Below.refl _ _ | with_reducible assumption | with_reducible refine Below.alloc ?_ ?_ _ | with_reducible refine Below.drew ?_ | with_reducible refine Below.setCell ?_ ?_ _ | omega | (simp; omega) | (simp; done)))) V' hV').2⟩
    repeat' (first | with_reducible exact h1 | refine Rob.set ?_ (by simp only; omega) _)
  exact AllReadyL.nil

set_option maxRecDepth 100000 in
set_option maxHeartbeats 8000000 in
theorem l5Note_c (X : Nat → Prop) (T D : Nat) (r : Rk) (va : Value) (m : Mg) (w : World) (h : Rob X r.ok w) (hf : r.fit T D) (hm : IsMg w va m) (hmf : m.fit) (hX : ∀ b, X b → b < w.heap.size) (hT : T ≤ 1000000) :
    Calls Try.prog 93 #[.agg #[.int .i64 r.me, .int .i64 r.view, .bool r.live, .int .i64 r.nx, .slice r.ta r.tk.length r.tc, .slice r.ha r.hd.length r.hc, .slice r.da r.dn.length r.dc], va] w (KeepGot X T D w) := by
  have HO := Lib.hid h
  have HF := Lib.hid hf
  have HM := Lib.hid hm
  have HMF := Lib.hid hmf
  have HT := Lib.hid (h.out.2.1.1.bounds.2.2.2)
  have HHm := Lib.hid (h.out.2.1)
  have ht : r.hd.length ≤ 120 := hf.hd
  obtain ⟨rfl, ⟨am, cm, em, -⟩, ⟨bm, dm, fm, -⟩, -⟩ := hm
  simp only [Mg.cs, em, fm] at HM ⊢
  clear em fm h hf hmf
  go_enter Try.func93, Try.ntmps93
  go_upto_region 1 with fail
  obtain ⟨W, hW_, sW, x, y, z, kW⟩ := blocks3 w (.cells #[.int .i64 r.me, .int .i64 r.view, .bool r.live, .int .i64 r.nx, .slice r.ta r.tk.length r.tc, .slice r.ha r.hd.length r.hc, .slice r.da r.dn.length r.dc] 78) (.cells #[.int .i64 m.k, .int .i64 m.f, .int .i64 m.v, .int .i64 m.s, .int .i64 m.r.c, .int .i64 m.r.n, .int .i64 m.r.o, .int .i64 m.r.x, .int .i64 m.r.y, .slice am m.cl.length cm, .slice bm m.vs.length dm] 34) (.cells #[.int .i64 0, .int .i64 0, .bool false, .int .i64 0, .slice none 0 0, .slice none 0 0, .slice none 0 0] 78)
  rw [← hW_]
  clear hW_
  have hsW : w.heap.size + 3 ≤ W.heap.size := by omega
  clear sW
  have cx := cell_of_block x
  have fx := unfrozen_of_block x
  have lx := lt_of_block x
  have cy := cell_of_block y
  have fy := unfrozen_of_block y
  have ly := lt_of_block y
  have cz := cell_of_block z
  have fz := unfrozen_of_block z
  have lz := lt_of_block z
  go_wp2_with fail
  refine (l3Has_c _ _ r.hd m W (HHm.out.below kW) (HM.out.below kW)).mono ?_
  rintro e w1 ⟨rfl, k1⟩
  clear cx fx lx cy fy ly cz fz lz
  have hl3 : w.heap.size + 2 < W.heap.size := by omega
  replace x := carryB k1 (by omega) x
  replace y := carryB k1 (by omega) y
  replace z := carryB k1 hl3 z
  clear hl3
  have K1 := below_next kW k1
  have hs1 : w.heap.size + 3 ≤ w1.heap.size := Nat.le_trans hsW k1.size
  clear k1 kW hsW
  have cx := cell_of_block x
  have fx := unfrozen_of_block x
  have lx := lt_of_block x
  have cy := cell_of_block y
  have fy := unfrozen_of_block y
  have ly := lt_of_block y
  have cz := cell_of_block z
  have fz := unfrozen_of_block z
  have lz := lt_of_block z
  generalize hasM r.hd m = b
  cases b with
  | true =>
    go_wp2_with fail
    refine bodyPost_ret (v := .agg #[.int .i64 r.me, .int .i64 r.view, .bool r.live, .int .i64 r.nx, .slice r.ta r.tk.length r.tc, .slice r.ha r.hd.length r.hc, .slice r.da r.dn.length r.dc]) (by simp [results, Try.results93, go_sem, cz]) rfl ?_
    exact ⟨r, rfl, HO.out.below (by repeat' (first | with_reducible exact Below.refl _ _ | with_reducible assumption | with_reducible refine Below.alloc ?_ ?_ _ | with_reducible refine Below.drew ?_ | with_reducible refine Below.setCell ?_ ?_ _ | omega | (simp; omega) | (simp; done))), HF.out, (by repeat' (first | with_reducible exact Below.refl _ _ | with_reducible assumption | with_reducible refine Below.alloc ?_ ?_ _ | with_reducible refine Below.drew ?_ | with_reducible refine Below.setCell ?_ ?_ _ | omega | (simp; omega) | (simp; done)))⟩
  | false =>
    obtain ⟨q1, h1⟩ : ∃ q, decide (120 ≤ (r.hd.length : Int)) = q := ⟨_, rfl⟩
    cases q1 with
    | true =>
      go_wp2_with fail
      refine bodyPost_ret (v := .agg #[.int .i64 r.me, .int .i64 r.view, .bool r.live, .int .i64 r.nx, .slice r.ta r.tk.length r.tc, .slice r.ha r.hd.length r.hc, .slice r.da r.dn.length r.dc]) (by simp [results, Try.results93, go_sem, cz]) rfl ?_
      exact ⟨r, rfl, HO.out.below (by repeat' (first | with_reducible exact Below.refl _ _ | with_reducible assumption | with_reducible refine Below.alloc ?_ ?_ _ | with_reducible refine Below.drew ?_ | with_reducible refine Below.setCell ?_ ?_ _ | omega | (simp; omega) | (simp; done))), HF.out, (by repeat' (first | with_reducible exact Below.refl _ _ | with_reducible assumption | with_reducible refine Below.alloc ?_ ?_ _ | with_reducible refine Below.drew ?_ | with_reducible refine Below.setCell ?_ ?_ _ | omega | (simp; omega) | (simp; done)))⟩
    | false =>
      have ht2 : r.hd.length + 1 ≤ 120 := by have := of_decide_eq_false h1; omega
      go_wp2_with fail
      have hBW := Nat.le_refl w1.heap.size
      refine wp_region_L (fun w' => ((∀ b o, b < w1.heap.size → (w').cell? ⟨b, o, none⟩ = (w1).cell? ⟨b, o, none⟩) ∧ Below (w1.heap.size) (w1) (w'))) [9] (by kernel_rfl) ?_
      obtain ⟨w1_0, hw_, kw_⟩ : ∃ wd, wd = w1.drew ∧ Below w1.heap.size w1 wd := ⟨_, rfl, Below.drew (Below.refl _ _)⟩
      rw [← hw_]
      clear hw_
      have hS := KeptB.of (kw_.mono hBW)
      clear kw_
      refine wpAnyL_take (i := 1) (oi := _) (v := ?_) (by (simp only [List.getElem?_toArray]; rfl)) (by kernel_rfl) (by kernel_rfl) (by kernel_rfl) (by kernel_rfl) (by exact fun _ _ _ h => h) (Or.inl ⟨by rfl, ?_⟩) (by assumption) ?_
      rotate_left
      · intro wS hSw
        go_simp
        all_goals first | with_reducible rfl | rw [if_neg (by omega)]
      simp only [Act.put, List.setIfInBounds_toArray, List.set]
      refine wpAnyL_take (i := 2) (oi := _) (v := ?_) (by (simp only [List.getElem?_toArray]; rfl)) (by kernel_rfl) (by kernel_rfl) (by kernel_rfl) (by kernel_rfl) (by exact fun _ _ _ h => h) (Or.inl ⟨by rfl, ?_⟩) (by assumption) ?_
      rotate_left
      · intro wS hSw
        go_simp
        all_goals first | with_reducible rfl | rw [if_neg (by omega)]
      simp only [Act.put, List.setIfInBounds_toArray, List.set]
      refine wpAnyL_take (i := 4) (oi := _) (v := ?_) (by (simp only [List.getElem?_toArray]; rfl)) (by kernel_rfl) (by kernel_rfl) (by kernel_rfl) (by kernel_rfl) (by exact fun _ _ _ h => h) (Or.inl ⟨by rfl, ?_⟩) (by assumption) ?_
      rotate_left
      · intro wS hSw
        go_simp
        all_goals first | with_reducible rfl | rw [if_neg (by omega)]
      simp only [Act.put, List.setIfInBounds_toArray, List.set]
      refine wpAnyL_ready (rs := [0]) (by kernel_rfl) (by simp) ?_
      refine AllReadyL.cons (o := _) (by (simp only [List.getElem?_toArray]; rfl)) (fun K hK => ?_) AllReadyL.nil
      refine step_build0M (by rfl) (by rfl) elmMg ?_
      obtain ⟨w1_1, hw_, kw_⟩ : ∃ V, V = w1_0.alloc (.cells #[] 34) ∧ Below w1_0.heap.size w1_0 V := ⟨_, rfl, (Below.refl _ _).alloc (Nat.le_refl _) _⟩
      rw [← hw_]
      clear hw_
      have hRK : Below w1.heap.size w1 w1_1 := hS.2.trans (kw_.mono (Nat.le_trans hBW hS.2.size))
      clear hS
      have hS := KeptB.of hRK
      clear hRK
      clear kw_
      refine hK.out _ _ (fun _ => hS) ?_
      clear hK K
      try simp only [Act.put, List.setIfInBounds_toArray, List.set]
      refine wpAnyL_ready (rs := [3]) (by kernel_rfl) (by simp) ?_
      refine AllReadyL.cons (o := _) (by (simp only [List.getElem?_toArray]; rfl)) (fun K hK => ?_) AllReadyL.nil
      refine step_append_newM w1_1.heap.size (by rfl) (.tmp 16) (.tmp 18) (by rfl) elmMg (by rfl) (by rfl) (fun z hz => mg_one (w := w) (HO.out.out.2.1.2 z hz)) ((HT.out.below (K1.trans (hS.2.mono K1.size)))) rfl (by simp only [maxLen]; omega) (by omega) (Nat.le_refl _) ?_
      intro a1 c1 w1_2 q_
      have hq_ : w1.heap.size ≤ w1_1.heap.size := Nat.le_trans hBW hS.2.size
      have kw_ := q_.below
      have hRK : Below w1.heap.size w1 w1_2 := hS.2.trans (kw_.mono (Nat.le_trans hBW hS.2.size))
      clear hS
      have hS := KeptB.of hRK
      clear hRK
      clear kw_
      have RT := Lib.hid (q_.row.low hq_)
      clear q_ hq_
      refine hK.out _ _ (fun _ => hS) ?_
      clear hK K
      try simp only [Act.put, List.setIfInBounds_toArray, List.set]
      refine wpAnyL_ready (rs := [5]) (by kernel_rfl) (by simp) ?_
      refine AllReadyL.cons (o := _) (by (simp only [List.getElem?_toArray]; rfl)) (fun K hK => ?_) AllReadyL.nil
      have hrl_ : ∀ g, rowBlk a1 c1 = some g → g < w1_2.heap.size := fun g hg => (RT.out.blk hg).2
      have hq_ : w1.heap.size ≤ w1_2.heap.size := hS.2.size
      go_simp
      refine (l3Copy_c _ m w1_2 (HM.out.below (K1.trans (hS.2.mono K1.size))) HMF.out).mono ?_
      rintro e w1_3 ⟨n1, n2, n3, n4, ys, rfl, hN_, hsy_, kw_⟩
      have hRK : Below w1.heap.size w1 w1_3 := hS.2.trans (kw_.mono (Nat.le_trans hBW hS.2.size))
      clear hS
      have hS := KeptB.of hRK
      clear hRK
      replace RT := Lib.hid (RT.out.below kw_)
      clear kw_
      have NL := Lib.hid (hN_.ow hq_ hrl_)
      have HSY := Lib.hid hsy_
      clear hN_ hsy_ hrl_ hq_
      refine hK.out _ _ (fun _ => hS) ?_
      clear hK K
      try simp only [Act.put, List.setIfInBounds_toArray, List.set]
      refine wpAnyL_ready (rs := [6]) (by kernel_rfl) (by simp) ?_
      refine AllReadyL.cons (o := _) (by (simp only [List.getElem?_toArray]; rfl)) (fun K hK => ?_) AllReadyL.nil
      go_simp
      obtain ⟨w1_4, hw_, sw_, hv_, kw_⟩ := blocks1 w1_3 (.cells #[.int .i64 m.k, .int .i64 m.f, .int .i64 m.v, .int .i64 m.s, .int .i64 m.r.c, .int .i64 m.r.n, .int .i64 m.r.o, .int .i64 m.r.x, .int .i64 m.r.y, .slice n1 m.cl.length n2, .slice n3 m.vs.length n4] 34)
      rw [← hw_]
      clear hw_ sw_
      have hRK : Below w1.heap.size w1 w1_4 := hS.2.trans (kw_.mono (Nat.le_trans hBW hS.2.size))
      clear hS
      have hS := KeptB.of hRK
      clear hRK
      replace RT := Lib.hid (RT.out.below kw_)
      replace NL := Lib.hid (NL.out.below kw_)
      clear kw_
      have RV := Lib.hid (show RowsAt w1_4 (some ⟨w1_3.heap.size, 0, none⟩) 11 Mg.cs [m.wth n1 n2 n3 n4 ys] from rows_of_block (R := Mg.cs) (zs := [m.wth n1 n2 n3 n4 ys]) (fun _ => rfl) hv_)
      clear hv_
      refine hK.out _ _ (fun _ => hS) ?_
      clear hK K
      try simp only [Act.put, List.setIfInBounds_toArray, List.set]
      refine wpAnyL_ready (rs := [7]) (by kernel_rfl) (by simp) ?_
      refine AllReadyL.cons (o := _) (by (simp only [List.getElem?_toArray]; rfl)) (fun K hK => ?_) AllReadyL.nil
      refine step_append_elm (by rfl) (.tmp 19) (.tmp 22) (by rfl) (r.hd.length + 1) elmMg (by rfl) (by rfl) RT.out (fun z hz => List.mem_singleton.1 hz ▸ mg_one NL.out.out) RV.out rfl rfl rfl (by simp only [maxLen]; omega) (by omega) (Nat.le_trans hBW hS.2.size) ?_
      intro a2 c2 w1_5 q_
      have hrb_ : ∀ g, rowBlk _ _ = some g → w1.heap.size ≤ g := fun g hg => (RT.out.blk hg).1
      have hRK : Below w1.heap.size w1 w1_5 := hS.2.trans (q_.below (B' := w1.heap.size) (Nat.le_trans hBW hS.2.size) hrb_)
      clear hS
      have hS := KeptB.of hRK
      clear hRK
      have RT2 := Lib.hid (q_.row)
      have NL2 := Lib.hid (NL.out.appended q_)
      clear q_ hrb_
      refine hK.out _ _ (fun _ => hS) ?_
      clear hK K
      try simp only [Act.put, List.setIfInBounds_toArray, List.set]
      refine wpAnyL_take (i := 8) (oi := _) (v := ?_) (by (simp only [List.getElem?_toArray]; rfl)) (by kernel_rfl) (by kernel_rfl) (by kernel_rfl) (by kernel_rfl) (by exact fun _ _ _ h => h) (Or.inl ⟨by rfl, ?_⟩) (by assumption) ?_
      rotate_left
      · intro wS hSw
        go_simp
        all_goals first | with_reducible rfl | rw [if_neg (by omega)]
      simp only [Act.put, List.setIfInBounds_toArray, List.set]
      refine wpAnyL_ready (rs := [9]) (by kernel_rfl) (by simp) ?_
      refine AllReadyL.cons (o := _) (by (simp only [List.getElem?_toArray]; rfl)) (fun K hK => ?_) AllReadyL.nil
      have xq_ := carryB hS.2 lx x
      have yq_ := carryB hS.2 ly y
      have zq_ := carryB hS.2 lz z
      have cq_ := cell_of_block xq_
      have fq_ := unfrozen_of_block xq_
      have lq_ := lt_of_block xq_
      go_simp
      obtain ⟨V, hV_, sV, xV, oV, kV⟩ := stored1 w1_5 w.heap.size 5 (.slice a2 (r.hd.length + 1) c2) xq_
      rw [← hV_]
      clear hV_
      have zV := (oV _ (by omega)).trans zq_
      have RV2 := Lib.hid (RT2.out.later sV oV (by omega))
      have NV := Lib.hid (NL2.out.next ⟨by omega, fun b hb hx => oV b (fun e => hx (.inl (by show b < w1.heap.size; omega)))⟩)
      have KV := Lib.hid (K1.trans ((hS.2.mono K1.size).trans kV))
      clear xq_ yq_ zq_ cq_ fq_ lq_ oV kV sV hS RT2 NL2 cx fx lx cy fy ly cz fz lz
      refine hK.out _ _ (fun h => absurd h (by decide)) ?_
      clear hK K
      try simp only [Act.put, List.setIfInBounds_toArray, List.set]
      refine wpAnyL_done (by kernel_rfl) ?_ _
      have cxV := cell_of_block xV
      have fxV := unfrozen_of_block xV
      have lxV := lt_of_block xV
      have czV := cell_of_block zV
      have fzV := unfrozen_of_block zV
      have lzV := lt_of_block zV
      go_wp2_with fail
      refine bodyPost_ret (v := .agg #[.int .i64 r.me, .int .i64 r.view, .bool r.live, .int .i64 r.nx, .slice r.ta r.tk.length r.tc, .slice a2 (r.hd.length + 1) c2, .slice r.da r.dn.length r.dc]) (by simp [results, Try.results93, go_sem, czV]) rfl ?_
      have KVo := KV.out
      refine ⟨⟨r.me, r.view, r.live, r.nx, r.ta, r.tc, r.tk, a2, c2, r.hd ++ [(m.wth n1 n2 n3 n4 ys)], r.da, r.dc, r.dn⟩, by simp, ?_, ⟨HF.out.me0, HF.out.me3, HF.out.tk, by simp; omega, fit_snoc HF.out.ms (fit_wth HMF.out HSY.out), HF.out.dn⟩, (by repeat' (first | with_reducible exact Below.refl _ _ | with_reducible assumption | with_reducible refine Below.alloc ?_ ?_ _ | with_reducible refine Below.drew ?_ | with_reducible refine Below.setCell ?_ ?_ _ | omega | (simp; omega) | (simp; done)))⟩
      have h1 : Rob (Lo w1.heap.size) (fun V' => IsSl V' (.slice a2 (r.hd ++ [(m.wth n1 n2 n3 n4 ys)]).length c2) 11 Mg.cs (r.hd ++ [(m.wth n1 n2 n3 n4 ys)])) V := RV2.out.rob eleven_len
      have h2 : Rob (Lo w1.heap.size) (fun V' => (m.wth n1 n2 n3 n4 ys).ok V') V := NV.out.unow
      have hXW : ∀ b, X b → b < w1.heap.size := fun b hb => Nat.lt_of_lt_of_le (hX b hb) (by omega)
      refine fun V' hV' => ⟨((HO.out.below (by repeat' (first | with_reducible exact Below.refl _ _ | with_reducible assumption | with_reducible refine Below.alloc ?_ ?_ _ | with_reducible refine Below.drew ?_ | with_reducible refine Below.setCell ?_ ?_ _ | omega | (simp; omega) | (simp; done)))) V' hV').1, ⟨?_, fun z' hz' => ?_⟩, ((HO.out.below (by repeat' (first | with_reducible exact Below.refl _ _ | with_reducible assumption | with_reducible refine Below.alloc ?_ ?_ _ | with_reducible refine Below.drew ?_ | with_reducible refine Below.setCell ?_ ?_ _ | omega | (simp; omega) | (simp; done)))) V' hV').2.2⟩
      · refine Rob.ofLo (B := w1.heap.size) (F := fun V' => IsSl V' (.slice a2 (r.hd ++ [(m.wth n1 n2 n3 n4 ys)]).length c2) 11 Mg.cs (r.hd ++ [(m.wth n1 n2 n3 n4 ys)])) ?_ hXW V' hV'
        repeat' (first | with_reducible exact h1 | refine Rob.set ?_ (by simp only; omega) _)
      · rcases List.mem_append.1 hz' with h' | h'
        · exact ((HO.out.below (by repeat' (first | with_reducible exact Below.refl _ _ | with_reducible assumption | with_reducible refine Below.alloc ?_ ?_ _ | with_reducible refine Below.drew ?_ | with_reducible refine Below.setCell ?_ ?_ _ | omega | (simp; omega) | (simp; done)))) V' hV').2.1.2 z' h'
        · obtain rfl := List.mem_singleton.1 h'
          refine Rob.ofLo (B := w1.heap.size) (F := fun V' => (m.wth n1 n2 n3 n4 ys).ok V') ?_ hXW V' hV'
          repeat' (first | with_reducible exact h2 | refine Rob.set ?_ (by simp only; omega) _)
end Go.Proofs.Ytgdhieffjflejaa
