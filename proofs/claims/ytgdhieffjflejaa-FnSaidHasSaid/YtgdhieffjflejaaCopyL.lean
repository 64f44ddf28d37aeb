/- Letters copied by the reference (l3Copy); condition: few claims and votes. -/
import Derived.Test.YtgdhieffjflejaaRob
set_option linter.unusedSimpArgs false
set_option linter.unusedVariables false
namespace Go.Proofs.Ytgdhieffjflejaa
open Go.RowKit Go.Joins

/-- The letter with its lists elsewhere. -/
def Mg.wth (m : Mg) (a : Option Addr) (c : Nat) (b : Option Addr) (d : Nat) (ys : List Vx) : Mg := ⟨m.k, m.f, m.v, m.s, m.r, .slice a m.cl.length c, .slice b m.vs.length d, m.cl, ys⟩
/-- The copy of a letter: its lists lie in new blocks. -/
def LetterGot (m : Mg) (w : World) (e : Ending) (w' : World) : Prop :=
  ∃ (a : Option Addr) (c : Nat) (b : Option Addr) (d : Nat) (ys : List Vx), e = .returned (.agg #[.int .i64 m.k, .int .i64 m.f, .int .i64 m.v, .int .i64 m.s, .int .i64 m.r.c, .int .i64 m.r.n, .int .i64 m.r.o, .int .i64 m.r.x, .int .i64 m.r.y, .slice a m.cl.length c, .slice b m.vs.length d]) ∧ Rob (Lo w.heap.size) (fun V => (m.wth a c b d ys).ok V) w' ∧ ys.map Vx.say = m.vs.map Vx.say ∧ Below w.heap.size w w'

set_option maxRecDepth 100000 in
set_option maxHeartbeats 8000000 in
theorem l3Copy_c (va : Value) (m : Mg) (w : World) (ha : IsMg w va m) (hf : m.fit) :
    Calls Try.prog 77 #[va] w (LetterGot m w) := by
  have HF := Lib.hid hf
  obtain ⟨rfl, hc, hv⟩ := ha
  obtain ⟨am, cm, em, hlc, hmc, hrc⟩ := hc
  obtain ⟨⟨bm, dm, fm, hlv, hmv, hrv⟩, hcv⟩ := hv
  simp only [Mg.cs, em, fm]
  clear em fm
  have HC := Lib.hid hrc
  have HV := Lib.hid hrv
  have CV := Lib.hid hcv
  clear hrc hrv hcv hf
  have hn1 : m.cl.length ≤ 8 := HF.out.1.1
  have hn2 : m.vs.length ≤ 8 := HF.out.2.1
  generalize hnc : m.cl.length = n at *
  generalize hnv : m.vs.length = q at *
  unfold maxLen at hmc hmv
  go_enter Try.func77, Try.ntmps77
  go_upto_region 1 with fail
  obtain ⟨W, hW_, sW, x, y, kW⟩ := blocks2 w (.cells #[.int .i64 m.k, .int .i64 m.f, .int .i64 m.v, .int .i64 m.s, .int .i64 m.r.c, .int .i64 m.r.n, .int .i64 m.r.o, .int .i64 m.r.x, .int .i64 m.r.y, .slice am n cm, .slice bm q dm] 34) (.cells #[.int .i64 0, .int .i64 0, .int .i64 0, .int .i64 0, .int .i64 0, .int .i64 0, .int .i64 0, .int .i64 0, .int .i64 0, .slice none 0 0, .slice none 0 0] 34)
  rw [← hW_]
  clear hW_
  have hsW : w.heap.size + 2 ≤ W.heap.size := by omega
  clear sW
  have cx := cell_of_block x
  have fx := unfrozen_of_block x
  have lx := lt_of_block x
  have cy := cell_of_block y
  have fy := unfrozen_of_block y
  have ly := lt_of_block y
  go_wp2_with (at_builtin; refine wpList_append_newM W.heap.size rfl _ _ rfl elmCl rfl rfl (fun z _ => cl_one z) (HC.out.below (kW.trans ((Below.refl W.heap.size W).alloc (Nat.le_refl _) _ |>.mono (by omega)))) hnc (by simp only [maxLen]; omega) (by omega) (by simp) ?_)
  intro a1 c1 w1 q1
  have k1 := below_next ((Below.refl W.heap.size W).alloc (Nat.le_refl _) (.cells #[] 62)) q1.below
  have N1 : Rob (Lo W.heap.size) (fun V => IsSl V (.slice a1 m.cl.length c1) 7 Cl.cs m.cl) w1 := q1.row.rob seven_len
  rw [hnc] at N1
  clear cx fx lx cy fy ly
  replace x := carryB k1 (by omega) x
  replace y := carryB k1 (by omega) y
  have K1 := below_next kW k1
  have HLW := Lib.hid k1.size
  clear q1 k1 kW
  have cx := cell_of_block x
  have fx := unfrozen_of_block x
  have lx := lt_of_block x
  have cy := cell_of_block y
  have fy := unfrozen_of_block y
  have ly := lt_of_block y
  go_wp2_with fail
  obtain ⟨X, hX, sX, xX, oX, kX⟩ := stored1 w1 w.heap.size 9 (.slice a1 n c1) x
  obtain ⟨Y, hY, sY, vY, kY⟩ := blocks1 X (.cells #[] 65)
  rw [← hX, ← hY]
  clear hX hY
  clear cx fx lx cy fy ly
  have yX := (oX _ (by omega)).trans y
  replace N1 : Rob (Lo W.heap.size) (fun V => IsSl V (.slice a1 n c1) 7 Cl.cs m.cl) X := N1.next ⟨by omega, fun b hb hB => oX b (by unfold Lo at hB; omega)⟩
  have KX := K1.trans (kX.mono (by omega))
  have lxX := lt_of_block xX
  have lyX := lt_of_block yX
  replace xX := carryB kY (by omega) xX
  replace yX := carryB kY (by omega) yX
  replace N1 := N1.below kY
  have KY := below_next KX kY
  have HLY := Lib.hid (show W.heap.size ≤ Y.heap.size by have := HLW.out; omega)
  clear x y oX kX KX kY K1 sX sY HLW lxX lyX
  go_loopw [3, 4] (fun vt i wr => ∃ (k : Nat) (av : Option Addr) (cv : Nat) (ys : List Vx), k ≤ q ∧ i = .int .i64 k ∧ vt = .slice av k cv ∧ ys.map Vx.say = (m.vs.map Vx.say).take k ∧ Row wr W.heap.size 65 av cv 2 Vx.cs ys ∧ (∀ z ∈ ys, Rob (Ow W.heap.size av cv) (fun V => IsSl V z.sl 7 Cl.cs z.cl) wr) ∧
      wr.heap[w.heap.size]? = some (.cells #[.int .i64 m.k, .int .i64 m.f, .int .i64 m.v, .int .i64 m.s, .int .i64 m.r.c, .int .i64 m.r.n, .int .i64 m.r.o, .int .i64 m.r.x, .int .i64 m.r.y, .slice a1 n c1, .slice bm q dm] 34 (0, 0)) ∧ wr.heap[w.heap.size + 1]? = some (.cells #[.int .i64 0, .int .i64 0, .int .i64 0, .int .i64 0, .int .i64 0, .int .i64 0, .int .i64 0, .int .i64 0, .int .i64 0, .slice none 0 0, .slice none 0 0] 34 (0, 0)) ∧
      Rob (Ow W.heap.size av cv) (fun V => IsSl V (.slice a1 n c1) 7 Cl.cs m.cl) wr ∧ W.heap.size ≤ wr.heap.size ∧ Below w.heap.size w wr) (fun _ i _ => q - (intOf i).toNat)
  case atStart => exact ⟨0, some ⟨w1.heap.size, 0, none⟩, 0, [], Nat.zero_le _, rfl, rfl, rfl, Row.nil _ _ _ _ _ _, (fun z hz => nomatch hz), xX, yX, N1.ow0, HLY.out, KY⟩
  case round =>
    clear xX yX N1 KY vY
    obtain ⟨k, av, cv, ys, hk, rfl, rfl, hys, hrow, hct, x, y, N1, hWr, hbel⟩ := hrel
    have NN := Lib.hid N1
    have RW := Lib.hid hrow
    have CT := Lib.hid hct
    have YS := Lib.hid hys
    clear N1 hrow hct hys
    have cx := cell_of_block x
    have fx := unfrozen_of_block x
    have lx := lt_of_block x
    have cy := cell_of_block y
    have fy := unfrozen_of_block y
    have ly := lt_of_block y
    by_cases hlt : k < q
    · have hka : k < m.vs.length := by omega
      have hk1 : (k : Int) < (q : Int) := by omega
      have hk0 : (0 : Int) ≤ (k : Int) := by omega
      obtain ⟨b0, o0, hbm, hl0, hc0⟩ := HV.out k hka
      subst hbm
      have c0 : wr.cell? ⟨b0, o0 + k * 2, none⟩ = some (.int .i64 m.vs[k].f) := (hbel.cell (p := ⟨b0, _, none⟩) hl0).trans (hc0 0 (by decide))
      have c1 : wr.cell? ⟨b0, o0 + k * 2 + 1, none⟩ = some m.vs[k].sl := (hbel.cell (p := ⟨b0, _, none⟩) hl0).trans (hc0 1 (by decide))
      have SX := (CV.out m.vs[k] (List.getElem_mem hka))
      have FX := Lib.hid (HF.out.2.2 m.vs[k] (List.getElem_mem hka)).1
      have HSY := Lib.hid (fun (z : Vx) (hz : z.say = m.vs[k].say) => say_take YS.out hka hz)
      clear hc0
      generalize m.vs[k] = z at c0 c1 SX FX HSY
      obtain ⟨F, sx, cx⟩ := z
      obtain ⟨ax, kx, hsx, hxl, hxm, hxr⟩ := SX
      simp only at c0 c1 hsx hxl hxr FX
      subst hsx
      have XR := Lib.hid hxr
      have hx8 : cx.length ≤ 8 := FX.out
      clear hxr
      unfold maxLen at hxm
      generalize hcx : cx.length = p at *
      have lxW : w.heap.size < W.heap.size := by omega
      have lbW : b0 < W.heap.size := by omega
      go_wp2_with fail
      refine wp_region_held_drew (S := fun w' => ((∀ b o, b < W.heap.size → (w').cell? ⟨b, o, none⟩ = (wr).cell? ⟨b, o, none⟩) ∧ Below (W.heap.size) (wr) (w'))) (by kernel_rfl) (KeptB.drew (KeptB.refl _ _)) (fun hHeld => ?_)
      obtain ⟨wd, hwd, kwd⟩ : ∃ wd, wd = wr.drew ∧ Below wr.heap.size wr wd := ⟨_, rfl, Below.drew (Below.refl _ _)⟩
      rw [← hwd]
      rw [← hwd] at hHeld
      clear hwd
      have RK := Lib.hid hHeld.2
      replace RW := Lib.hid (RW.out.below kwd)
      replace NN := Lib.hid (NN.out.below kwd)
      replace CT := Lib.hid (fun z hz => (CT.out z hz).below kwd)
      have hsd := kwd.size
      clear kwd
      refine wpAnyH_take (i := 0) (oi := _) (v := ?_) (by (simp only [List.getElem?_toArray]; rfl)) (by kernel_rfl) (by kernel_rfl) (by kernel_rfl) (by exact fun _ _ _ h => h) (Or.inl ⟨by rfl, ?_⟩) (by assumption) ?_
      rotate_left
      · intro wS hSw
        go_simp
        all_goals first | with_reducible rfl | rw [if_neg (by omega)]
      simp only [Act.put, List.setIfInBounds_toArray, List.set]
      refine wpAnyH_take (i := 1) (oi := _) (v := ?_) (by (simp only [List.getElem?_toArray]; rfl)) (by kernel_rfl) (by kernel_rfl) (by kernel_rfl) (by exact fun _ _ _ h => h) (Or.inl ⟨by rfl, ?_⟩) (by assumption) ?_
      rotate_left
      · intro wS hSw
        go_simp
        all_goals first | with_reducible rfl | rw [if_neg (by omega)]
      simp only [Act.put, List.setIfInBounds_toArray, List.set]
      refine wpAnyH_take (i := 2) (oi := _) (v := ?_) (by (simp only [List.getElem?_toArray]; rfl)) (by kernel_rfl) (by kernel_rfl) (by kernel_rfl) (by exact fun _ _ _ h => h) (Or.inl ⟨by rfl, ?_⟩) (by assumption) ?_
      rotate_left
      · intro wS hSw
        go_simp
        all_goals first | with_reducible rfl | rw [if_neg (by omega)]
      simp only [Act.put, List.setIfInBounds_toArray, List.set]
      refine wpAnyH_take (i := 3) (oi := _) (v := ?_) (by (simp only [List.getElem?_toArray]; rfl)) (by kernel_rfl) (by kernel_rfl) (by kernel_rfl) (by exact fun _ _ _ h => h) (Or.inl ⟨by rfl, ?_⟩) (by assumption) ?_
      rotate_left
      · intro wS hSw
        go_simp
        all_goals first | with_reducible rfl | rw [if_neg (by omega)]
      simp only [Act.put, List.setIfInBounds_toArray, List.set]
      refine wpAnyH_take (i := 4) (oi := _) (v := ?_) (by (simp only [List.getElem?_toArray]; rfl)) (by kernel_rfl) (by kernel_rfl) (by kernel_rfl) (by exact fun _ _ _ h => h) (Or.inl ⟨by rfl, ?_⟩) (by assumption) ?_
      rotate_left
      · intro wS hSw
        go_simp
        all_goals first | with_reducible rfl | rw [if_neg (by omega)]
      simp only [Act.put, List.setIfInBounds_toArray, List.set]
      refine wpAnyH_take (i := 5) (oi := _) (v := ?_) (by (simp only [List.getElem?_toArray]; rfl)) (by kernel_rfl) (by kernel_rfl) (by kernel_rfl) (by exact fun _ _ _ h => h) (Or.inl ⟨by rfl, ?_⟩) (by assumption) ?_
      rotate_left
      · intro wS hSw
        go_simp
        all_goals first | with_reducible rfl | rw [if_neg (by omega)]
      simp only [Act.put, List.setIfInBounds_toArray, List.set]
      refine wpAnyH_take (i := 6) (oi := _) (v := ?_) (by (simp only [List.getElem?_toArray]; rfl)) (by kernel_rfl) (by kernel_rfl) (by kernel_rfl) (by exact fun _ _ _ h => h) (Or.inl ⟨by rfl, ?_⟩) (by assumption) ?_
      rotate_left
      · intro wS hSw
        go_simp
        all_goals first | with_reducible rfl | rw [if_neg (by omega)]
      simp only [Act.put, List.setIfInBounds_toArray, List.set]
      refine wpAnyH_take (i := 8) (oi := _) (v := ?_) (by (simp only [List.getElem?_toArray]; rfl)) (by kernel_rfl) (by kernel_rfl) (by kernel_rfl) (by exact fun _ _ _ h => h) (Or.inl ⟨by rfl, ?_⟩) (by assumption) ?_
      rotate_left
      · intro wS hSw
        go_simp
        all_goals first | with_reducible rfl | rw [if_neg (by omega)]
      simp only [Act.put, List.setIfInBounds_toArray, List.set]
      refine wpAnyH_take (i := 9) (oi := _) (v := ?_) (by (simp only [List.getElem?_toArray]; rfl)) (by kernel_rfl) (by kernel_rfl) (by kernel_rfl) (by exact fun _ _ _ h => h) (Or.inl ⟨by rfl, ?_⟩) (by assumption) ?_
      rotate_left
      · intro wS hSw
        go_simp
        all_goals first | with_reducible rfl | rw [if_neg (by omega)]
      simp only [Act.put, List.setIfInBounds_toArray, List.set]
      refine wpAnyH_take (i := 10) (oi := _) (v := ?_) (by (simp only [List.getElem?_toArray]; rfl)) (by kernel_rfl) (by kernel_rfl) (by kernel_rfl) (by exact fun _ _ _ h => h) (Or.inl ⟨by rfl, ?_⟩) (by assumption) ?_
      rotate_left
      · intro wS hSw
        go_simp
        all_goals first | with_reducible rfl | rw [if_neg (by omega)]
      simp only [Act.put, List.setIfInBounds_toArray, List.set]
      refine wpAnyH_take (i := 11) (oi := _) (v := ?_) (by (simp only [List.getElem?_toArray]; rfl)) (by kernel_rfl) (by kernel_rfl) (by kernel_rfl) (by exact fun _ _ _ h => h) (Or.inl ⟨by rfl, ?_⟩) (by assumption) ?_
      rotate_left
      · intro wS hSw
        go_simp
        all_goals first | with_reducible rfl | rw [if_neg (by omega)]
      simp only [Act.put, List.setIfInBounds_toArray, List.set]
      refine wpAnyH_take (i := 12) (oi := _) (v := ?_) (by (simp only [List.getElem?_toArray]; rfl)) (by kernel_rfl) (by kernel_rfl) (by kernel_rfl) (by exact fun _ _ _ h => h) (Or.inl ⟨by rfl, ?_⟩) (by assumption) ?_
      rotate_left
      · intro wS hSw
        go_simp
        all_goals first | with_reducible rfl | rw [if_neg (by omega)]
      simp only [Act.put, List.setIfInBounds_toArray, List.set]
      refine wpAnyH_take (i := 13) (oi := _) (v := ?_) (by (simp only [List.getElem?_toArray]; rfl)) (by kernel_rfl) (by kernel_rfl) (by kernel_rfl) (by exact fun _ _ _ h => h) (Or.inl ⟨by rfl, ?_⟩) (by assumption) ?_
      rotate_left
      · intro wS hSw
        go_simp
        all_goals first | with_reducible rfl | rw [if_neg (by omega)]
      simp only [Act.put, List.setIfInBounds_toArray, List.set]
      refine wpAnyH_ready (rs := [7]) (by kernel_rfl) (by simp) ?_
      refine AllReadyH.cons (o := _) (by (simp only [List.getElem?_toArray]; rfl)) (fun K hK => ?_) AllReadyH.nil
      refine step_build0M (by rfl) (by rfl) elmCl ?_
      obtain ⟨wA, hwA, kA⟩ : ∃ V, V = wd.alloc (.cells #[] 62) ∧ Below wd.heap.size wd V := ⟨_, rfl, (Below.refl _ _).alloc (Nat.le_refl _) _⟩
      rw [← hwA]
      clear hwA
      have RKA := Lib.hid (RK.out.trans (kA.mono (by omega)))
      refine hK.out _ _ (KeptB.of RKA.out) (fun hHeld => ?_)
      clear hK K
      try simp only [Act.put, List.setIfInBounds_toArray, List.set]
      refine wpAnyH_ready (rs := [14]) (by kernel_rfl) (by simp) ?_
      refine AllReadyH.cons (o := _) (by (simp only [List.getElem?_toArray]; rfl)) (fun K hK => ?_) AllReadyH.nil
      refine step_append_newM wd.heap.size (by rfl) (.tmp 25) (.tmp 31) (by rfl) elmCl (by rfl) (by rfl) (fun z _ => cl_one z) (XR.out.below (hbel.trans (RKA.out.mono (by omega)))) hcx (by simp only [maxLen]; omega) (by omega) kA.size ?_
      intro a2 c2 wB q2
      have RKB := Lib.hid (RKA.out.trans (q2.below.mono (by have := kA.size; omega)))
      have kB := below_next kA q2.below
      have ZN : Rob (Lo wd.heap.size) (fun V => IsSl V (.slice a2 cx.length c2) 7 Cl.cs cx) wB := q2.row.rob seven_len
      rw [hcx] at ZN
      replace ZN := Lib.hid ZN
      clear q2 kA RKA
      refine hK.out _ _ (KeptB.of RKB.out) (fun hHeld => ?_)
      clear hK K
      try simp only [Act.put, List.setIfInBounds_toArray, List.set]
      refine wpAnyH_take (i := 15) (oi := _) (v := ?_) (by (simp only [List.getElem?_toArray]; rfl)) (by kernel_rfl) (by kernel_rfl) (by kernel_rfl) (by exact fun _ _ _ h => h) (Or.inl ⟨by rfl, ?_⟩) (by assumption) ?_
      rotate_left
      · intro wS hSw
        go_simp
        all_goals first | with_reducible rfl | rw [if_neg (by omega)]
      simp only [Act.put, List.setIfInBounds_toArray, List.set]
      refine wpAnyH_ready (rs := [16]) (by kernel_rfl) (by simp) ?_
      refine AllReadyH.cons (o := _) (by (simp only [List.getElem?_toArray]; rfl)) (fun K hK => ?_) AllReadyH.nil
      go_simp
      obtain ⟨wC, hwC, sC, vC, kC⟩ := blocks1 wB (.cells #[.int .i64 F, .slice a2 p c2] 65)
      rw [← hwC]
      clear hwC
      have RV := Lib.hid (show RowsAt wC (some ⟨wB.heap.size, 0, none⟩) 2 Vx.cs [⟨F, .slice a2 p c2, cx⟩] from rows_of_block (R := Vx.cs) (zs := [⟨F, .slice a2 p c2, cx⟩]) two_len vC)
      have RKC := Lib.hid (RKB.out.trans (kC.mono (by have := kB.size; omega)))
      have kBC := below_next kB kC
      replace ZN := Lib.hid (ZN.out.below kC)
      have hszC := kBC.size
      clear sC vC kC kB RKB
      refine hK.out _ _ (KeptB.of RKC.out) (fun hHeld => ?_)
      clear hK K
      try simp only [Act.put, List.setIfInBounds_toArray, List.set]
      refine wpAnyH_ready (rs := [17]) (by kernel_rfl) (by simp) ?_
      refine AllReadyH.cons (o := _) (by (simp only [List.getElem?_toArray]; rfl)) (fun K hK => ?_) AllReadyH.nil
      have hrb : ∀ g, rowBlk av cv = some g → W.heap.size ≤ g := fun g hg => (RW.out.blk hg).1
      have hrl : ∀ g, rowBlk av cv = some g → g < wd.heap.size := fun g hg => (RW.out.blk hg).2
      have hyl : ys.length = k := by have := congrArg List.length YS.out; simp at this; omega
      refine step_append_elm (by rfl) (.tmp 18) (.tmp 34) (by rfl) (k + 1) elmVx (by rfl) (by rfl) (RW.out.below kBC) (ys := [⟨F, .slice a2 p c2, cx⟩]) (fun z hz => by
        obtain rfl := List.mem_singleton.1 hz
        exact vx_one (w := wC) ZN.out.out) RV.out hyl rfl rfl (by simp only [maxLen]; omega) (by omega) (by omega) ?_
      intro a3 c3 wD q3
      have RKD := Lib.hid (RKC.out.trans (q3.below (B' := W.heap.size) (by omega) hrb))
      replace NN := Lib.hid ((NN.out.below kBC).appended q3)
      replace CT := Lib.hid (show ∀ z ∈ ys ++ [⟨F, .slice a2 p c2, cx⟩], Rob (Ow W.heap.size a3 c3) (fun V => IsSl V z.sl 7 Cl.cs z.cl) wD from fun z hz => by
        rcases List.mem_append.1 hz with h | h
        · exact ((CT.out z h).below kBC).appended q3
        · obtain rfl := List.mem_singleton.1 h
          exact (ZN.out.ow (by omega) hrl).appended q3)
      have RWD := Lib.hid q3.row
      clear q3 hrb hrl RW ZN RV kBC RKC
      refine hK.out _ _ (KeptB.of RKD.out) (fun hHeld => ?_)
      clear hK K
      try simp only [Act.put, List.setIfInBounds_toArray, List.set]
      refine wpAnyH_take (i := 18) (oi := _) (v := ?_) (by (simp only [List.getElem?_toArray]; rfl)) (by kernel_rfl) (by kernel_rfl) (by kernel_rfl) (by exact fun _ _ _ h => h) (Or.inl ⟨by rfl, ?_⟩) (by assumption) ?_
      rotate_left
      · intro wS hSw
        go_simp
        all_goals first | with_reducible rfl | rw [if_neg (by omega)]
      simp only [Act.put, List.setIfInBounds_toArray, List.set]
      refine wpAnyH_done (by kernel_rfl) ?_ _
      clear hHeld
      have X := Lib.hid (carryB RKD.out lxW x)
      have Y := Lib.hid (carryB RKD.out (by omega) y)
      have KD := Lib.hid (hbel.trans (RKD.out.mono (by omega)))
      have hWD : W.heap.size ≤ wD.heap.size := Nat.le_trans hWr RKD.out.size
      clear x y hbel c0 c1 RKD RK
      go_wp2_with fail
      go_roundw
      case rel => exact ⟨k + 1, a3, c3, ys ++ [⟨F, .slice a2 p c2, cx⟩], by omega, by go_num, rfl, HSY.out _ rfl, RWD.out, CT.out, X.out, Y.out, NN.out, hWD, KD.out⟩
      case measure => simp [intOf]; omega
    · obtain rfl : k = q := by omega
      have hyl : ys.length = k := by have := congrArg List.length YS.out; simp at this; omega
      go_wp2_with fail
      refine bodyPost_ret (v := .agg #[.int .i64 m.k, .int .i64 m.f, .int .i64 m.v, .int .i64 m.s, .int .i64 m.r.c, .int .i64 m.r.n, .int .i64 m.r.o, .int .i64 m.r.x, .int .i64 m.r.y, .slice a1 n c1, .slice av k cv]) (by simp [results, Try.results77, go_sem, cy]) rfl ?_
      have hsay : ys.map Vx.say = m.vs.map Vx.say := by rw [YS.out, List.take_of_length_le (by simp; omega)]
      refine ⟨a1, c1, av, cv, ys, by rw [hnc, hnv], ?_, hsay, (by repeat' (first | with_reducible exact Below.refl _ _ | with_reducible assumption | with_reducible refine Below.alloc ?_ ?_ _ | with_reducible refine Below.drew ?_ | with_reducible refine Below.setCell ?_ ?_ _ | omega | (simp; omega) | (simp; done)))⟩
      have hR : Rob (Lo W.heap.size) (fun V => (m.wth a1 c1 av cv ys).ok V) wr := by
        refine fun V hV => ⟨?_, ?_, fun z hz => ((CT.out z hz).unow) V hV⟩
        · simp only [Mg.wth, hnc]
          exact NN.out.unow V hV
        · have h := RW.out.rob two_len V hV
          simp only [Mg.wth, hnv]
          rw [hyl] at h
          exact h
      refine Rob.low (B := W.heap.size) ?_ (by omega)
      repeat' (first | with_reducible exact hR | refine Rob.set ?_ (by simp only; omega) _)
end Go.Proofs.Ytgdhieffjflejaa
