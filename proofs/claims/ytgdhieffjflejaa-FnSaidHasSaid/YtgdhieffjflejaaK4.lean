/- A keeper that notes what is done (l5Finish); condition: small sizes. -/
import Derived.Test.YtgdhieffjflejaaK3
set_option linter.unusedSimpArgs false
set_option linter.unusedVariables false
namespace Go.Proofs.Ytgdhieffjflejaa
open Go.RowKit Go.Joins

theorem RowsAt.takeW {α : Type} {w : World} {a : Option Addr} {k : Nat} {R : α → List Value} {zs : List α} (h : RowsAt w a k R zs) (i : Nat) : RowsAt w a k R (zs.take i) := by
  intro j hj
  rw [List.length_take] at hj
  obtain ⟨b, off, q, hb, hc⟩ := h j (by omega)
  refine ⟨b, off, q, hb, fun t ht => ?_⟩
  rw [List.getElem_take]
  exact hc t ht
theorem RowsAt.dropW {α : Type} {w : World} {g off k : Nat} {R : α → List Value} {zs : List α} (h : RowsAt w (some ⟨g, off, none⟩) k R zs) (i : Nat) : RowsAt w (some ⟨g, off + i * k, none⟩) k R (zs.drop i) := by
  intro j hj
  rw [List.length_drop] at hj
  obtain ⟨b, o, q, hb, hc⟩ := h (i + j) (by omega)
  injection q with q
  injection q with q1 q2
  subst q1 q2
  refine ⟨g, off + i * k, rfl, hb, fun t ht => ?_⟩
  rw [List.getElem_drop, ← hc t ht]
  congr 2
  rw [Nat.add_mul]
  omega
theorem RowsAt.emptyW {α : Type} (w : World) (a : Option Addr) (k : Nat) (R : α → List Value) : RowsAt w a k R [] := fun i hi => absurd hi (Nat.not_lt_zero i)
theorem RowsAt.nilW {α : Type} {w : World} {a : Option Addr} {k : Nat} {R : α → List Value} {zs : List α} (h : zs.length = 0) : RowsAt w a k R zs := fun i hi => absurd hi (by omega)
theorem RowsAt.tailW {α : Type} {w : World} {g off k : Nat} {R : α → List Value} {zs : List α} (h : RowsAt w (some ⟨g, off, none⟩) k R zs) (i c : Nat) (hc : c = i → zs.length ≤ i) : RowsAt w (if c = i then some ⟨g, off, none⟩ else some ⟨g, off + i * k, none⟩) k R (zs.drop i) := by
  split
  · rename_i he
    rw [List.drop_eq_nil_of_le (hc he)]
    exact RowsAt.emptyW _ _ _ _
  · exact h.dropW i

set_option maxRecDepth 100000 in
set_option maxHeartbeats 16000000 in
theorem l5Finish_c (X : Nat → Prop) (T D : Nat) (r : Rk) (c : Cl) (w : World) (h : Rob X r.ok w) (hf : r.fit T D) (hX : ∀ b, X b → b < w.heap.size) (hD : D ≤ 1000000) :
    Calls Try.prog 112 #[.agg #[.int .i64 r.me, .int .i64 r.view, .bool r.live, .int .i64 r.nx, .slice r.ta r.tk.length r.tc, .slice r.ha r.hd.length r.hc, .slice r.da r.dn.length r.dc], .agg #[.int .i64 c.s, .int .i64 c.v, .int .i64 c.r.c, .int .i64 c.r.n, .int .i64 c.r.o, .int .i64 c.r.x, .int .i64 c.r.y]] w (KeepGot X T (D + 1) w) := by
  have HO := Lib.hid h
  have HF := Lib.hid hf
  obtain ⟨-, hlc, hm, hd_⟩ := h.out.2.2.bounds
  have HD := Lib.hid hd_
  have hdl : r.dn.length ≤ 1000000 := Nat.le_trans hf.dn hD
  clear h hf hd_
  obtain ⟨me, view, live, nx, ta, tc, tk, ha, hc, hd, da, dc, dn⟩ := r
  simp only at hlc hm hdl HD ⊢
  unfold maxLen at hm
  go_enter Try.func112, Try.ntmps112
  go_upto_region 1 with fail
  obtain ⟨W, hW_, sW, x, y, z, kW⟩ := blocks3 w (.cells #[.int .i64 me, .int .i64 view, .bool live, .int .i64 nx, .slice ta tk.length tc, .slice ha hd.length hc, .slice da dn.length dc] 78) (.cells #[.int .i64 c.s, .int .i64 c.v, .int .i64 c.r.c, .int .i64 c.r.n, .int .i64 c.r.o, .int .i64 c.r.x, .int .i64 c.r.y] 62) (.cells #[.int .i64 0, .int .i64 0, .bool false, .int .i64 0, .slice none 0 0, .slice none 0 0, .slice none 0 0] 78)
  rw [← hW_]
  clear hW_
  have hsW : w.heap.size + 3 ≤ W.heap.size := by omega
  obtain ⟨X1, hlt, hin, hsub, hbx⟩ : ∃ X1 : Nat → Prop, (∀ b, X1 b → b < W.heap.size) ∧ (∀ b, w.heap.size ≤ b → b < W.heap.size → X1 b) ∧ (∀ b, X b → X1 b) ∧ ∀ F : World → Prop, Rob X F w → Rob X1 F W :=
    ⟨Bx X w.heap.size W.heap.size, Bx.lt hX (by omega), fun b h1 h2 => .inr ⟨h1, h2⟩, fun b hb => .inl hb, fun F hF => hF.box kW _⟩
  clear sW hbx
  have cx := cell_of_block x
  have fx := unfrozen_of_block x
  have lx := lt_of_block x
  have cy := cell_of_block y
  have fy := unfrozen_of_block y
  have ly := lt_of_block y
  have cz := cell_of_block z
  have fz := unfrozen_of_block z
  have lz := lt_of_block z
  go_wp2_with fail
  refine (l5IsDone_w ⟨me, view, live, nx, ta, tc, tk, ha, hc, hd, da, dc, dn⟩ c.s W (HO.out.below kW).out).mono ?_
  rintro e w1 ⟨b, rfl, k1⟩
  clear cx fx lx cy fy ly cz fz lz
  have hl3_ : w.heap.size + 2 < W.heap.size := by omega
  replace x := carryB k1 (by omega) x
  replace y := carryB k1 (by omega) y
  replace z := carryB k1 hl3_ z
  have K1 := below_next kW k1
  have hs1 : W.heap.size ≤ w1.heap.size := k1.size
  clear k1 kW hl3_
  have cx := cell_of_block x
  have fx := unfrozen_of_block x
  have lx := lt_of_block x
  have cy := cell_of_block y
  have fy := unfrozen_of_block y
  have ly := lt_of_block y
  have cz := cell_of_block z
  have fz := unfrozen_of_block z
  have lz := lt_of_block z
  cases b with
  | true =>
    go_wp2_with fail
    refine bodyPost_ret (v := .agg #[.int .i64 me, .int .i64 view, .bool live, .int .i64 nx, .slice ta tk.length tc, .slice ha hd.length hc, .slice da dn.length dc]) (by simp [results, Try.results112, go_sem, cz]) rfl ?_
    exact ⟨⟨me, view, live, nx, ta, tc, tk, ha, hc, hd, da, dc, dn⟩, rfl, HO.out.below (by repeat' (first | with_reducible exact Below.refl _ _ | with_reducible assumption | with_reducible refine Below.alloc ?_ ?_ _ | with_reducible refine Below.drew ?_ | with_reducible refine Below.setCell ?_ ?_ _ | omega | (simp; omega) | (simp; done))), HF.out.more (Nat.le_refl _) (by omega), (by repeat' (first | with_reducible exact Below.refl _ _ | with_reducible assumption | with_reducible refine Below.alloc ?_ ?_ _ | with_reducible refine Below.drew ?_ | with_reducible refine Below.setCell ?_ ?_ _ | omega | (simp; omega) | (simp; done)))⟩
  | false =>
    go_wp2_with fail
    go_loopw [5] (fun i wr => ∃ k : Nat, k ≤ dn.length ∧ i = .int .i64 k ∧ wr.heap[w.heap.size]? = some (.cells #[.int .i64 me, .int .i64 view, .bool live, .int .i64 nx, .slice ta tk.length tc, .slice ha hd.length hc, .slice da dn.length dc] 78 (0, 0)) ∧ wr.heap[w.heap.size + 1]? = some (.cells #[.int .i64 c.s, .int .i64 c.v, .int .i64 c.r.c, .int .i64 c.r.n, .int .i64 c.r.o, .int .i64 c.r.x, .int .i64 c.r.y] 62 (0, 0)) ∧ wr.heap[w.heap.size + 2]? = some (.cells #[.int .i64 0, .int .i64 0, .bool false, .int .i64 0, .slice none 0 0, .slice none 0 0, .slice none 0 0] 78 (0, 0)) ∧ W.heap.size ≤ wr.heap.size ∧ Below w.heap.size w wr) (fun i _ => dn.length - (intOf i).toNat)
    case atStart => exact ⟨0, Nat.zero_le _, rfl, x, y, z, hs1, K1⟩
    case round =>
      clear cx fx lx cy fy ly cz fz lz
      clear x y z K1 hs1
      obtain ⟨k, hk, rfl, x, y, z, hsr, hbel⟩ := hrel
      have ex := cellRe x
      have ey := cellRe y
      by_cases hlt : k < dn.length
      · have hk1 : (k : Int) < (dn.length : Int) := by omega
        have hk0 : (0 : Int) ≤ (k : Int) := by omega
        obtain ⟨b0, o0, rfl, hl0, hc0⟩ := HD.out k hlt
        have d0 : wr.cell? ⟨b0, o0 + k * 7, none⟩ = some (.int .i64 dn[k].s) := (hbel.cell (p := ⟨b0, _, none⟩) hl0).trans (hc0 0 (by decide))
        have e0 := cell_regrown d0
        clear hc0
        generalize dn[k] = u at *
        obtain ⟨q1, h1⟩ : ∃ q, decide (u.s < c.s) = q := ⟨_, rfl⟩
        cases q1 with
        | true =>
          go_wp2_with fail
          refine wp_region_quiet_below (by kernel_rfl) (by kernel_rfl) ?_
          repeat (go_big_quiet_step (fail))
          refine wpQuiet_nil ?_
          intro _ hw'
          obtain ⟨⟨dq, osq⟩, hw''⟩ := hw'
          subst hw''
          have kq := below_regrown wr dq osq
          clear ex ey d0 e0
          generalize Sort.grow (redrawn wr dq) osq = U at *
          replace x := carryB kq (lt_of_block x) x
          replace y := carryB kq (lt_of_block y) y
          replace z := carryB kq (lt_of_block z) z
          have KU := below_next hbel kq
          have hsU : W.heap.size ≤ U.heap.size := Nat.le_trans hsr kq.size
          clear kq hbel hsr
          have X_ := Lib.hid x
          have Y_ := Lib.hid y
          have Z_ := Lib.hid z
          go_wp2_with fail
          go_roundw
          case rel => exact ⟨k + 1, by omega, by go_num, X_.out, Y_.out, Z_.out, hsU, KU⟩
          case measure => simp [intOf]; omega
        | false =>
          go_wp2_with fail
          refine wp_region_quiet_below (by kernel_rfl) (by kernel_rfl) ?_
          repeat (go_big_quiet_step (fail))
          refine wpQuiet_nil ?_
          intro _ hw'
          obtain ⟨⟨dq, osq⟩, hw''⟩ := hw'
          subst hw''
          have kq := below_regrown wr dq osq
          clear ex ey d0 e0
          generalize Sort.grow (redrawn wr dq) osq = U at *
          replace x := carryB kq (lt_of_block x) x
          replace y := carryB kq (lt_of_block y) y
          replace z := carryB kq (lt_of_block z) z
          have KU := below_next hbel kq
          have hsU : W.heap.size ≤ U.heap.size := Nat.le_trans hsr kq.size
          clear kq hbel hsr
          have cx := cell_of_block x
          have fx := unfrozen_of_block x
          have lx := lt_of_block x
          have cy := cell_of_block y
          have fy := unfrozen_of_block y
          have ly := lt_of_block y
          have cz := cell_of_block z
          have fz := unfrozen_of_block z
          have lz := lt_of_block z
          have hlen1 : (dn.take k).length = k := by first | (rw [List.length_take]; omega) | (simp; omega)
          have hlen2 : (dn.drop k).length = dn.length - k := by first | exact List.length_drop | (simp; omega)
          have KUo := Lib.hid KU
          have hkk0 : (0 : Int) ≤ (k : Int) := by omega
          have hkk1 : (k : Int) ≤ (dn.length : Int) := by omega
          have hkk3 : (dn.length : Int) ≤ (dc : Int) := by omega
          have hkk4 : (k : Int) ≤ (dc : Int) := by omega
          have hkk5 : k ≤ dc := by omega
          go_wp2_with (at_builtin; refine wpList_append_newM U.heap.size rfl _ _ rfl elmCl rfl rfl (ys := (dn.take k)) (fun z _ => cl_one z) (((HD.out.below (KUo.out.trans ((Below.refl U.heap.size U).alloc (Nat.le_refl _) _ |>.mono (by omega)))).takeW k)) (by first | exact hlen1 | (rw [List.length_take]; omega)) (by simp only [maxLen]; omega) (by omega) (by simp) ?_)
          intro a1 c1 w2 q1
          have k1 := below_next ((Below.refl U.heap.size U).alloc (Nat.le_refl _) (.cells #[] 62)) q1.below
          have R1 := Lib.hid q1.row
          clear cx fx lx cy fy ly cz fz lz
          replace x := carryB k1 (lt_of_block x) x
          replace y := carryB k1 (lt_of_block y) y
          replace z := carryB k1 (lt_of_block z) z
          have K2 := Lib.hid (below_next KU k1)
          have hs2 : U.heap.size ≤ w2.heap.size := k1.size
          clear q1 k1 KU
          have cx := cell_of_block x
          have fx := unfrozen_of_block x
          have lx := lt_of_block x
          have cy := cell_of_block y
          have fy := unfrozen_of_block y
          have ly := lt_of_block y
          have cz := cell_of_block z
          have fz := unfrozen_of_block z
          have lz := lt_of_block z
          go_wp2_with (at_builtin; refine wpList_append_rowM rfl _ _ rfl (k + 1) elmCl rfl rfl (R1.out.below ((Below.refl w2.heap.size w2).alloc (Nat.le_refl _) _)) (ys := [c]) (fun z _ => cl_one z) (rows_of_block (R := Cl.cs) (zs := [c]) (fun _ => rfl) (heap_alloc_new w2 _)) (by first | exact hlen1 | (rw [List.length_take]; omega)) rfl (by omega) (by simp only [maxLen]; omega) (by omega) (by simp; omega) ?_)
          intro a2 c2 w3 q2
          have hrb_ : ∀ g, rowBlk a1 c1 = some g → U.heap.size ≤ g := fun g hg => (R1.out.blk hg).1
          have k2 : Below U.heap.size w2 w3 := ((Below.refl w2.heap.size w2).alloc (Nat.le_refl _) (.cells #[.int .i64 c.s, .int .i64 c.v, .int .i64 c.r.c, .int .i64 c.r.n, .int .i64 c.r.o, .int .i64 c.r.x, .int .i64 c.r.y] 62) |>.mono hs2).trans (q2.below (by simp; omega) hrb_)
          have R2 := Lib.hid q2.row
          clear cx fx lx cy fy ly cz fz lz
          replace x := carryB k2 (by omega) x
          replace y := carryB k2 (by omega) y
          replace z := carryB k2 (by omega) z
          have K3 := Lib.hid (K2.out.trans (k2.mono (by omega)))
          have hs3 : U.heap.size ≤ w3.heap.size := Nat.le_trans hs2 k2.size
          clear q2 k2 hrb_ R1
          have cx := cell_of_block x
          have fx := unfrozen_of_block x
          have lx := lt_of_block x
          have cy := cell_of_block y
          have fy := unfrozen_of_block y
          have ly := lt_of_block y
          have cz := cell_of_block z
          have fz := unfrozen_of_block z
          have lz := lt_of_block z
          have hlen3 : ((dn.take k) ++ [c]).length = k + 1 := by rw [List.length_append, hlen1]; rfl
          go_wp2_with (at_builtin; refine wpList_append_rowM rfl _ _ rfl (dn.length + 1) elmCl rfl rfl R2.out (ys := (dn.drop k)) (fun z _ => cl_one z) (((HD.out.below K3.out).dropW k)) (by first | exact hlen3 | (rw [hlen3]; omega)) (by first | exact hlen2 | (rw [List.length_drop]; omega)) (by omega) (by simp only [maxLen]; omega) (by omega) (by omega) ?_)
          all_goals
            intro a3 c3 w4 q3
            have hrb_ : ∀ g, rowBlk a2 c2 = some g → U.heap.size ≤ g := fun g hg => (R2.out.blk hg).1
            have k3 : Below U.heap.size w3 w4 := q3.below (by omega) hrb_
            have R3 := Lib.hid q3.row
            clear cx fx lx cy fy ly cz fz lz
            replace x := carryB k3 (by omega) x
            replace z := carryB k3 (by omega) z
            have K4 := Lib.hid (K3.out.trans (k3.mono (by omega)))
            have hs4 : U.heap.size ≤ w4.heap.size := Nat.le_trans hs3 k3.size
            clear q3 k3 hrb_ R2 y
            have cx := cell_of_block x
            have fx := unfrozen_of_block x
            have lx := lt_of_block x
            have cz := cell_of_block z
            have fz := unfrozen_of_block z
            have lz := lt_of_block z
            go_upto_region 9 with fail
            obtain ⟨V, hV_, sV, xV, oV, kV⟩ := stored1 w4 w.heap.size 6 (.slice a3 (dn.length + 1) c3) x
            rw [← hV_]
            clear hV_
            clear cx fx lx cz fz lz
            have zV := (oV _ (by omega)).trans z
            have RV2 := Lib.hid (R3.out.later sV oV (by omega))
            have KV := Lib.hid (K4.out.trans (kV.mono (by omega)))
            clear x z oV kV sV R3
            have cxV := cell_of_block xV
            have fxV := unfrozen_of_block xV
            have lxV := lt_of_block xV
            have czV := cell_of_block zV
            have fzV := unfrozen_of_block zV
            have lzV := lt_of_block zV
            go_wp2_with fail
            refine bodyPost_ret (v := .agg #[.int .i64 me, .int .i64 view, .bool live, .int .i64 nx, .slice ta tk.length tc, .slice ha hd.length hc, .slice a3 (dn.length + 1) c3]) (by simp [results, Try.results112, go_sem, czV]) rfl ?_
            have KVo := KV.out
            have hl4 : ((dn.take k) ++ c :: (dn.drop k)).length = dn.length + 1 := by rw [List.length_append, List.length_cons, hlen1, hlen2]; omega
            refine ⟨⟨me, view, live, nx, ta, tc, tk, ha, hc, hd, a3, c3, (dn.take k) ++ c :: (dn.drop k)⟩, by simp only; rw [hl4], ?_, ⟨HF.out.me0, HF.out.me3, HF.out.tk, HF.out.hd, HF.out.ms, by show ((dn.take k) ++ c :: (dn.drop k)).length ≤ D + 1; rw [hl4]; have := HF.out.dn; simp only at this; omega⟩, (by repeat' (first | with_reducible exact Below.refl _ _ | with_reducible assumption | with_reducible refine Below.alloc ?_ ?_ _ | with_reducible refine Below.drew ?_ | with_reducible refine Below.setCell ?_ ?_ _ | omega | (simp; omega) | (simp; done)))⟩
            have h1 : Rob (Lo U.heap.size) (fun V' => IsSl V' (.slice a3 ((dn.take k) ++ c :: (dn.drop k)).length c3) 7 Cl.cs ((dn.take k) ++ c :: (dn.drop k))) V := RV2.out.rob seven_len
            have hXW : ∀ b, X b → b < U.heap.size := fun b hb => Nat.lt_of_lt_of_le (hX b hb) (by omega)
            refine fun V' hV' => ⟨((HO.out.below (by repeat' (first | with_reducible exact Below.refl _ _ | with_reducible assumption | with_reducible refine Below.alloc ?_ ?_ _ | with_reducible refine Below.drew ?_ | with_reducible refine Below.setCell ?_ ?_ _ | omega | (simp; omega) | (simp; done)))) V' hV').1, ((HO.out.below (by repeat' (first | with_reducible exact Below.refl _ _ | with_reducible assumption | with_reducible refine Below.alloc ?_ ?_ _ | with_reducible refine Below.drew ?_ | with_reducible refine Below.setCell ?_ ?_ _ | omega | (simp; omega) | (simp; done)))) V' hV').2.1, Rob.ofLo (B := U.heap.size) (F := fun V' => IsSl V' (.slice a3 ((dn.take k) ++ c :: (dn.drop k)).length c3) 7 Cl.cs ((dn.take k) ++ c :: (dn.drop k))) ?_ hXW V' hV'⟩
            repeat' (first | with_reducible exact h1 | refine Rob.set ?_ (by simp only; omega) _)
      · have hkf : ¬ ((k : Int) < (dn.length : Int)) := by omega
        go_wp2_with fail
        refine wp_region_quiet_below (by kernel_rfl) (by kernel_rfl) ?_
        repeat (go_big_quiet_step (fail))
        refine wpQuiet_nil ?_
        intro _ hw'
        obtain ⟨⟨dq, osq⟩, hw''⟩ := hw'
        subst hw''
        have kq := below_regrown wr dq osq
        clear ex ey
        generalize Sort.grow (redrawn wr dq) osq = U at *
        replace x := carryB kq (lt_of_block x) x
        replace y := carryB kq (lt_of_block y) y
        replace z := carryB kq (lt_of_block z) z
        have KU := below_next hbel kq
        have hsU : W.heap.size ≤ U.heap.size := Nat.le_trans hsr kq.size
        clear kq hbel hsr
        by_cases hn0 : dn.length = 0
        · have hk00 : k ≤ 0 := by omega
          have hn00 : dn.length ≤ 0 := by omega
          clear hn0
          cases da with
          | none =>
            have cx := cell_of_block x
            have fx := unfrozen_of_block x
            have lx := lt_of_block x
            have cy := cell_of_block y
            have fy := unfrozen_of_block y
            have ly := lt_of_block y
            have cz := cell_of_block z
            have fz := unfrozen_of_block z
            have lz := lt_of_block z
            have hlen1 : (dn.take k).length = k := by first | (rw [List.length_take]; omega) | (simp; omega)
            have hlen2 : (dn.drop k).length = dn.length - k := by first | exact List.length_drop | (simp; omega)
            have KUo := Lib.hid KU
            have hkk0 : (0 : Int) ≤ (k : Int) := by omega
            have hkk1 : (k : Int) ≤ (dn.length : Int) := by omega
            have hkk3 : (dn.length : Int) ≤ (dc : Int) := by omega
            have hkk4 : (k : Int) ≤ (dc : Int) := by omega
            have hkk5 : k ≤ dc := by omega
            go_wp2_with (at_builtin; refine wpList_append_newM U.heap.size rfl _ _ rfl elmCl rfl rfl (ys := (dn.take k)) (fun z _ => cl_one z) (RowsAt.nilW (by rw [List.length_take]; omega)) (by first | exact hlen1 | (rw [List.length_take]; omega)) (by simp only [maxLen]; omega) (by omega) (by simp) ?_)
            intro a1 c1 w2 q1
            have k1 := below_next ((Below.refl U.heap.size U).alloc (Nat.le_refl _) (.cells #[] 62)) q1.below
            have R1 := Lib.hid q1.row
            clear cx fx lx cy fy ly cz fz lz
            replace x := carryB k1 (lt_of_block x) x
            replace y := carryB k1 (lt_of_block y) y
            replace z := carryB k1 (lt_of_block z) z
            have K2 := Lib.hid (below_next KU k1)
            have hs2 : U.heap.size ≤ w2.heap.size := k1.size
            clear q1 k1 KU
            have cx := cell_of_block x
            have fx := unfrozen_of_block x
            have lx := lt_of_block x
            have cy := cell_of_block y
            have fy := unfrozen_of_block y
            have ly := lt_of_block y
            have cz := cell_of_block z
            have fz := unfrozen_of_block z
            have lz := lt_of_block z
            go_wp2_with (at_builtin; refine wpList_append_rowM rfl _ _ rfl (k + 1) elmCl rfl rfl (R1.out.below ((Below.refl w2.heap.size w2).alloc (Nat.le_refl _) _)) (ys := [c]) (fun z _ => cl_one z) (rows_of_block (R := Cl.cs) (zs := [c]) (fun _ => rfl) (heap_alloc_new w2 _)) (by first | exact hlen1 | (rw [List.length_take]; omega)) rfl (by omega) (by simp only [maxLen]; omega) (by omega) (by simp; omega) ?_)
            intro a2 c2 w3 q2
            have hrb_ : ∀ g, rowBlk a1 c1 = some g → U.heap.size ≤ g := fun g hg => (R1.out.blk hg).1
            have k2 : Below U.heap.size w2 w3 := ((Below.refl w2.heap.size w2).alloc (Nat.le_refl _) (.cells #[.int .i64 c.s, .int .i64 c.v, .int .i64 c.r.c, .int .i64 c.r.n, .int .i64 c.r.o, .int .i64 c.r.x, .int .i64 c.r.y] 62) |>.mono hs2).trans (q2.below (by simp; omega) hrb_)
            have R2 := Lib.hid q2.row
            clear cx fx lx cy fy ly cz fz lz
            replace x := carryB k2 (by omega) x
            replace y := carryB k2 (by omega) y
            replace z := carryB k2 (by omega) z
            have K3 := Lib.hid (K2.out.trans (k2.mono (by omega)))
            have hs3 : U.heap.size ≤ w3.heap.size := Nat.le_trans hs2 k2.size
            clear q2 k2 hrb_ R1
            have cx := cell_of_block x
            have fx := unfrozen_of_block x
            have lx := lt_of_block x
            have cy := cell_of_block y
            have fy := unfrozen_of_block y
            have ly := lt_of_block y
            have cz := cell_of_block z
            have fz := unfrozen_of_block z
            have lz := lt_of_block z
            have hlen3 : ((dn.take k) ++ [c]).length = k + 1 := by rw [List.length_append, hlen1]; rfl
            go_wp2_with (at_builtin; refine wpList_append_rowM rfl _ _ rfl (dn.length + 1) elmCl rfl rfl R2.out (ys := (dn.drop k)) (fun z _ => cl_one z) (RowsAt.nilW (by rw [List.length_drop]; omega)) (by first | exact hlen3 | (rw [hlen3]; omega)) (by first | exact hlen2 | (rw [List.length_drop]; omega)) (by omega) (by simp only [maxLen]; omega) (by omega) (by omega) ?_)
            all_goals
              intro a3 c3 w4 q3
              have hrb_ : ∀ g, rowBlk a2 c2 = some g → U.heap.size ≤ g := fun g hg => (R2.out.blk hg).1
              have k3 : Below U.heap.size w3 w4 := q3.below (by omega) hrb_
              have R3 := Lib.hid q3.row
              clear cx fx lx cy fy ly cz fz lz
              replace x := carryB k3 (by omega) x
              replace z := carryB k3 (by omega) z
              have K4 := Lib.hid (K3.out.trans (k3.mono (by omega)))
              have hs4 : U.heap.size ≤ w4.heap.size := Nat.le_trans hs3 k3.size
              clear q3 k3 hrb_ R2 y
              have cx := cell_of_block x
              have fx := unfrozen_of_block x
              have lx := lt_of_block x
              have cz := cell_of_block z
              have fz := unfrozen_of_block z
              have lz := lt_of_block z
              go_upto_region 9 with fail
              obtain ⟨V, hV_, sV, xV, oV, kV⟩ := stored1 w4 w.heap.size 6 (.slice a3 (dn.length + 1) c3) x
              rw [← hV_]
              clear hV_
              clear cx fx lx cz fz lz
              have zV := (oV _ (by omega)).trans z
              have RV2 := Lib.hid (R3.out.later sV oV (by omega))
              have KV := Lib.hid (K4.out.trans (kV.mono (by omega)))
              clear x z oV kV sV R3
              have cxV := cell_of_block xV
              have fxV := unfrozen_of_block xV
              have lxV := lt_of_block xV
              have czV := cell_of_block zV
              have fzV := unfrozen_of_block zV
              have lzV := lt_of_block zV
              go_wp2_with fail
              refine bodyPost_ret (v := .agg #[.int .i64 me, .int .i64 view, .bool live, .int .i64 nx, .slice ta tk.length tc, .slice ha hd.length hc, .slice a3 (dn.length + 1) c3]) (by simp [results, Try.results112, go_sem, czV]) rfl ?_
              have KVo := KV.out
              have hl4 : ((dn.take k) ++ c :: (dn.drop k)).length = dn.length + 1 := by rw [List.length_append, List.length_cons, hlen1, hlen2]; omega
              refine ⟨⟨me, view, live, nx, ta, tc, tk, ha, hc, hd, a3, c3, (dn.take k) ++ c :: (dn.drop k)⟩, by simp only; rw [hl4], ?_, ⟨HF.out.me0, HF.out.me3, HF.out.tk, HF.out.hd, HF.out.ms, by show ((dn.take k) ++ c :: (dn.drop k)).length ≤ D + 1; rw [hl4]; have := HF.out.dn; simp only at this; omega⟩, (by repeat' (first | with_reducible exact Below.refl _ _ | with_reducible assumption | with_reducible refine Below.alloc ?_ ?_ _ | with_reducible refine Below.drew ?_ | with_reducible refine Below.setCell ?_ ?_ _ | omega | (simp; omega) | (simp; done)))⟩
              have h1 : Rob (Lo U.heap.size) (fun V' => IsSl V' (.slice a3 ((dn.take k) ++ c :: (dn.drop k)).length c3) 7 Cl.cs ((dn.take k) ++ c :: (dn.drop k))) V := RV2.out.rob seven_len
              have hXW : ∀ b, X b → b < U.heap.size := fun b hb => Nat.lt_of_lt_of_le (hX b hb) (by omega)
              refine fun V' hV' => ⟨((HO.out.below (by repeat' (first | with_reducible exact Below.refl _ _ | with_reducible assumption | with_reducible refine Below.alloc ?_ ?_ _ | with_reducible refine Below.drew ?_ | with_reducible refine Below.setCell ?_ ?_ _ | omega | (simp; omega) | (simp; done)))) V' hV').1, ((HO.out.below (by repeat' (first | with_reducible exact Below.refl _ _ | with_reducible assumption | with_reducible refine Below.alloc ?_ ?_ _ | with_reducible refine Below.drew ?_ | with_reducible refine Below.setCell ?_ ?_ _ | omega | (simp; omega) | (simp; done)))) V' hV').2.1, Rob.ofLo (B := U.heap.size) (F := fun V' => IsSl V' (.slice a3 ((dn.take k) ++ c :: (dn.drop k)).length c3) 7 Cl.cs ((dn.take k) ++ c :: (dn.drop k))) ?_ hXW V' hV'⟩
              repeat' (first | with_reducible exact h1 | refine Rob.set ?_ (by simp only; omega) _)
          | some ad =>
            have cx := cell_of_block x
            have fx := unfrozen_of_block x
            have lx := lt_of_block x
            have cy := cell_of_block y
            have fy := unfrozen_of_block y
            have ly := lt_of_block y
            have cz := cell_of_block z
            have fz := unfrozen_of_block z
            have lz := lt_of_block z
            have hlen1 : (dn.take k).length = k := by first | (rw [List.length_take]; omega) | (simp; omega)
            have hlen2 : (dn.drop k).length = dn.length - k := by first | exact List.length_drop | (simp; omega)
            have KUo := Lib.hid KU
            have hkk0 : (0 : Int) ≤ (k : Int) := by omega
            have hkk1 : (k : Int) ≤ (dn.length : Int) := by omega
            have hkk3 : (dn.length : Int) ≤ (dc : Int) := by omega
            have hkk4 : (k : Int) ≤ (dc : Int) := by omega
            have hkk5 : k ≤ dc := by omega
            go_wp2_with (at_builtin; refine wpList_append_newM U.heap.size rfl _ _ rfl elmCl rfl rfl (ys := (dn.take k)) (fun z _ => cl_one z) (RowsAt.nilW (by rw [List.length_take]; omega)) (by first | exact hlen1 | (rw [List.length_take]; omega)) (by simp only [maxLen]; omega) (by omega) (by simp) ?_)
            intro a1 c1 w2 q1
            have k1 := below_next ((Below.refl U.heap.size U).alloc (Nat.le_refl _) (.cells #[] 62)) q1.below
            have R1 := Lib.hid q1.row
            clear cx fx lx cy fy ly cz fz lz
            replace x := carryB k1 (lt_of_block x) x
            replace y := carryB k1 (lt_of_block y) y
            replace z := carryB k1 (lt_of_block z) z
            have K2 := Lib.hid (below_next KU k1)
            have hs2 : U.heap.size ≤ w2.heap.size := k1.size
            clear q1 k1 KU
            have cx := cell_of_block x
            have fx := unfrozen_of_block x
            have lx := lt_of_block x
            have cy := cell_of_block y
            have fy := unfrozen_of_block y
            have ly := lt_of_block y
            have cz := cell_of_block z
            have fz := unfrozen_of_block z
            have lz := lt_of_block z
            go_wp2_with (at_builtin; refine wpList_append_rowM rfl _ _ rfl (k + 1) elmCl rfl rfl (R1.out.below ((Below.refl w2.heap.size w2).alloc (Nat.le_refl _) _)) (ys := [c]) (fun z _ => cl_one z) (rows_of_block (R := Cl.cs) (zs := [c]) (fun _ => rfl) (heap_alloc_new w2 _)) (by first | exact hlen1 | (rw [List.length_take]; omega)) rfl (by omega) (by simp only [maxLen]; omega) (by omega) (by simp; omega) ?_)
            intro a2 c2 w3 q2
            have hrb_ : ∀ g, rowBlk a1 c1 = some g → U.heap.size ≤ g := fun g hg => (R1.out.blk hg).1
            have k2 : Below U.heap.size w2 w3 := ((Below.refl w2.heap.size w2).alloc (Nat.le_refl _) (.cells #[.int .i64 c.s, .int .i64 c.v, .int .i64 c.r.c, .int .i64 c.r.n, .int .i64 c.r.o, .int .i64 c.r.x, .int .i64 c.r.y] 62) |>.mono hs2).trans (q2.below (by simp; omega) hrb_)
            have R2 := Lib.hid q2.row
            clear cx fx lx cy fy ly cz fz lz
            replace x := carryB k2 (by omega) x
            replace y := carryB k2 (by omega) y
            replace z := carryB k2 (by omega) z
            have K3 := Lib.hid (K2.out.trans (k2.mono (by omega)))
            have hs3 : U.heap.size ≤ w3.heap.size := Nat.le_trans hs2 k2.size
            clear q2 k2 hrb_ R1
            have cx := cell_of_block x
            have fx := unfrozen_of_block x
            have lx := lt_of_block x
            have cy := cell_of_block y
            have fy := unfrozen_of_block y
            have ly := lt_of_block y
            have cz := cell_of_block z
            have fz := unfrozen_of_block z
            have lz := lt_of_block z
            have hlen3 : ((dn.take k) ++ [c]).length = k + 1 := by rw [List.length_append, hlen1]; rfl
            go_wp2_with (at_builtin; refine wpList_append_rowM rfl _ _ rfl (dn.length + 1) elmCl rfl rfl R2.out (ys := (dn.drop k)) (fun z _ => cl_one z) (RowsAt.nilW (by rw [List.length_drop]; omega)) (by first | exact hlen3 | (rw [hlen3]; omega)) (by first | exact hlen2 | (rw [List.length_drop]; omega)) (by omega) (by simp only [maxLen]; omega) (by omega) (by omega) ?_)
            all_goals
              intro a3 c3 w4 q3
              have hrb_ : ∀ g, rowBlk a2 c2 = some g → U.heap.size ≤ g := fun g hg => (R2.out.blk hg).1
              have k3 : Below U.heap.size w3 w4 := q3.below (by omega) hrb_
              have R3 := Lib.hid q3.row
              clear cx fx lx cy fy ly cz fz lz
              replace x := carryB k3 (by omega) x
              replace z := carryB k3 (by omega) z
              have K4 := Lib.hid (K3.out.trans (k3.mono (by omega)))
              have hs4 : U.heap.size ≤ w4.heap.size := Nat.le_trans hs3 k3.size
              clear q3 k3 hrb_ R2 y
              have cx := cell_of_block x
              have fx := unfrozen_of_block x
              have lx := lt_of_block x
              have cz := cell_of_block z
              have fz := unfrozen_of_block z
              have lz := lt_of_block z
              go_upto_region 9 with fail
              obtain ⟨V, hV_, sV, xV, oV, kV⟩ := stored1 w4 w.heap.size 6 (.slice a3 (dn.length + 1) c3) x
              rw [← hV_]
              clear hV_
              clear cx fx lx cz fz lz
              have zV := (oV _ (by omega)).trans z
              have RV2 := Lib.hid (R3.out.later sV oV (by omega))
              have KV := Lib.hid (K4.out.trans (kV.mono (by omega)))
              clear x z oV kV sV R3
              have cxV := cell_of_block xV
              have fxV := unfrozen_of_block xV
              have lxV := lt_of_block xV
              have czV := cell_of_block zV
              have fzV := unfrozen_of_block zV
              have lzV := lt_of_block zV
              go_wp2_with fail
              refine bodyPost_ret (v := .agg #[.int .i64 me, .int .i64 view, .bool live, .int .i64 nx, .slice ta tk.length tc, .slice ha hd.length hc, .slice a3 (dn.length + 1) c3]) (by simp [results, Try.results112, go_sem, czV]) rfl ?_
              have KVo := KV.out
              have hl4 : ((dn.take k) ++ c :: (dn.drop k)).length = dn.length + 1 := by rw [List.length_append, List.length_cons, hlen1, hlen2]; omega
              refine ⟨⟨me, view, live, nx, ta, tc, tk, ha, hc, hd, a3, c3, (dn.take k) ++ c :: (dn.drop k)⟩, by simp only; rw [hl4], ?_, ⟨HF.out.me0, HF.out.me3, HF.out.tk, HF.out.hd, HF.out.ms, by show ((dn.take k) ++ c :: (dn.drop k)).length ≤ D + 1; rw [hl4]; have := HF.out.dn; simp only at this; omega⟩, (by repeat' (first | with_reducible exact Below.refl _ _ | with_reducible assumption | with_reducible refine Below.alloc ?_ ?_ _ | with_reducible refine Below.drew ?_ | with_reducible refine Below.setCell ?_ ?_ _ | omega | (simp; omega) | (simp; done)))⟩
              have h1 : Rob (Lo U.heap.size) (fun V' => IsSl V' (.slice a3 ((dn.take k) ++ c :: (dn.drop k)).length c3) 7 Cl.cs ((dn.take k) ++ c :: (dn.drop k))) V := RV2.out.rob seven_len
              have hXW : ∀ b, X b → b < U.heap.size := fun b hb => Nat.lt_of_lt_of_le (hX b hb) (by omega)
              refine fun V' hV' => ⟨((HO.out.below (by repeat' (first | with_reducible exact Below.refl _ _ | with_reducible assumption | with_reducible refine Below.alloc ?_ ?_ _ | with_reducible refine Below.drew ?_ | with_reducible refine Below.setCell ?_ ?_ _ | omega | (simp; omega) | (simp; done)))) V' hV').1, ((HO.out.below (by repeat' (first | with_reducible exact Below.refl _ _ | with_reducible assumption | with_reducible refine Below.alloc ?_ ?_ _ | with_reducible refine Below.drew ?_ | with_reducible refine Below.setCell ?_ ?_ _ | omega | (simp; omega) | (simp; done)))) V' hV').2.1, Rob.ofLo (B := U.heap.size) (F := fun V' => IsSl V' (.slice a3 ((dn.take k) ++ c :: (dn.drop k)).length c3) 7 Cl.cs ((dn.take k) ++ c :: (dn.drop k))) ?_ hXW V' hV'⟩
              repeat' (first | with_reducible exact h1 | refine Rob.set ?_ (by simp only; omega) _)
        · obtain ⟨b0, o0, rfl, -, -⟩ := HD.out 0 (by omega)
          have cx := cell_of_block x
          have fx := unfrozen_of_block x
          have lx := lt_of_block x
          have cy := cell_of_block y
          have fy := unfrozen_of_block y
          have ly := lt_of_block y
          have cz := cell_of_block z
          have fz := unfrozen_of_block z
          have lz := lt_of_block z
          have hlen1 : (dn.take k).length = k := by first | (rw [List.length_take]; omega) | (simp; omega)
          have hlen2 : (dn.drop k).length = dn.length - k := by first | exact List.length_drop | (simp; omega)
          have KUo := Lib.hid KU
          have hkk0 : (0 : Int) ≤ (k : Int) := by omega
          have hkk1 : (k : Int) ≤ (dn.length : Int) := by omega
          have hkk3 : (dn.length : Int) ≤ (dc : Int) := by omega
          have hkk4 : (k : Int) ≤ (dc : Int) := by omega
          have hkk5 : k ≤ dc := by omega
          go_wp2_with (at_builtin; refine wpList_append_newM U.heap.size rfl _ _ rfl elmCl rfl rfl (ys := (dn.take k)) (fun z _ => cl_one z) (((HD.out.below (KUo.out.trans ((Below.refl U.heap.size U).alloc (Nat.le_refl _) _ |>.mono (by omega)))).takeW k)) (by first | exact hlen1 | (rw [List.length_take]; omega)) (by simp only [maxLen]; omega) (by omega) (by simp) ?_)
          intro a1 c1 w2 q1
          have k1 := below_next ((Below.refl U.heap.size U).alloc (Nat.le_refl _) (.cells #[] 62)) q1.below
          have R1 := Lib.hid q1.row
          clear cx fx lx cy fy ly cz fz lz
          replace x := carryB k1 (lt_of_block x) x
          replace y := carryB k1 (lt_of_block y) y
          replace z := carryB k1 (lt_of_block z) z
          have K2 := Lib.hid (below_next KU k1)
          have hs2 : U.heap.size ≤ w2.heap.size := k1.size
          clear q1 k1 KU
          have cx := cell_of_block x
          have fx := unfrozen_of_block x
          have lx := lt_of_block x
          have cy := cell_of_block y
          have fy := unfrozen_of_block y
          have ly := lt_of_block y
          have cz := cell_of_block z
          have fz := unfrozen_of_block z
          have lz := lt_of_block z
          go_wp2_with (at_builtin; refine wpList_append_rowM rfl _ _ rfl (k + 1) elmCl rfl rfl (R1.out.below ((Below.refl w2.heap.size w2).alloc (Nat.le_refl _) _)) (ys := [c]) (fun z _ => cl_one z) (rows_of_block (R := Cl.cs) (zs := [c]) (fun _ => rfl) (heap_alloc_new w2 _)) (by first | exact hlen1 | (rw [List.length_take]; omega)) rfl (by omega) (by simp only [maxLen]; omega) (by omega) (by simp; omega) ?_)
          intro a2 c2 w3 q2
          have hrb_ : ∀ g, rowBlk a1 c1 = some g → U.heap.size ≤ g := fun g hg => (R1.out.blk hg).1
          have k2 : Below U.heap.size w2 w3 := ((Below.refl w2.heap.size w2).alloc (Nat.le_refl _) (.cells #[.int .i64 c.s, .int .i64 c.v, .int .i64 c.r.c, .int .i64 c.r.n, .int .i64 c.r.o, .int .i64 c.r.x, .int .i64 c.r.y] 62) |>.mono hs2).trans (q2.below (by simp; omega) hrb_)
          have R2 := Lib.hid q2.row
          clear cx fx lx cy fy ly cz fz lz
          replace x := carryB k2 (by omega) x
          replace y := carryB k2 (by omega) y
          replace z := carryB k2 (by omega) z
          have K3 := Lib.hid (K2.out.trans (k2.mono (by omega)))
          have hs3 : U.heap.size ≤ w3.heap.size := Nat.le_trans hs2 k2.size
          clear q2 k2 hrb_ R1
          have cx := cell_of_block x
          have fx := unfrozen_of_block x
          have lx := lt_of_block x
          have cy := cell_of_block y
          have fy := unfrozen_of_block y
          have ly := lt_of_block y
          have cz := cell_of_block z
          have fz := unfrozen_of_block z
          have lz := lt_of_block z
          have hlen3 : ((dn.take k) ++ [c]).length = k + 1 := by rw [List.length_append, hlen1]; rfl
          go_wp2_with (at_builtin; refine wpList_append_rowM rfl _ _ rfl (dn.length + 1) elmCl rfl rfl R2.out (ys := (dn.drop k)) (fun z _ => cl_one z) (RowsAt.nilW (by rw [List.length_drop]; omega)) (by first | exact hlen3 | (rw [hlen3]; omega)) (by first | exact hlen2 | (rw [List.length_drop]; omega)) (by omega) (by simp only [maxLen]; omega) (by omega) (by omega) ?_)
          all_goals
            intro a3 c3 w4 q3
            have hrb_ : ∀ g, rowBlk a2 c2 = some g → U.heap.size ≤ g := fun g hg => (R2.out.blk hg).1
            have k3 : Below U.heap.size w3 w4 := q3.below (by omega) hrb_
            have R3 := Lib.hid q3.row
            clear cx fx lx cy fy ly cz fz lz
            replace x := carryB k3 (by omega) x
            replace z := carryB k3 (by omega) z
            have K4 := Lib.hid (K3.out.trans (k3.mono (by omega)))
            have hs4 : U.heap.size ≤ w4.heap.size := Nat.le_trans hs3 k3.size
            clear q3 k3 hrb_ R2 y
            have cx := cell_of_block x
            have fx := unfrozen_of_block x
            have lx := lt_of_block x
            have cz := cell_of_block z
            have fz := unfrozen_of_block z
            have lz := lt_of_block z
            go_upto_region 9 with fail
            obtain ⟨V, hV_, sV, xV, oV, kV⟩ := stored1 w4 w.heap.size 6 (.slice a3 (dn.length + 1) c3) x
            rw [← hV_]
            clear hV_
            clear cx fx lx cz fz lz
            have zV := (oV _ (by omega)).trans z
            have RV2 := Lib.hid (R3.out.later sV oV (by omega))
            have KV := Lib.hid (K4.out.trans (kV.mono (by omega)))
            clear x z oV kV sV R3
            have cxV := cell_of_block xV
            have fxV := unfrozen_of_block xV
            have lxV := lt_of_block xV
            have czV := cell_of_block zV
            have fzV := unfrozen_of_block zV
            have lzV := lt_of_block zV
            go_wp2_with fail
            refine bodyPost_ret (v := .agg #[.int .i64 me, .int .i64 view, .bool live, .int .i64 nx, .slice ta tk.length tc, .slice ha hd.length hc, .slice a3 (dn.length + 1) c3]) (by simp [results, Try.results112, go_sem, czV]) rfl ?_
            have KVo := KV.out
            have hl4 : ((dn.take k) ++ c :: (dn.drop k)).length = dn.length + 1 := by rw [List.length_append, List.length_cons, hlen1, hlen2]; omega
            refine ⟨⟨me, view, live, nx, ta, tc, tk, ha, hc, hd, a3, c3, (dn.take k) ++ c :: (dn.drop k)⟩, by simp only; rw [hl4], ?_, ⟨HF.out.me0, HF.out.me3, HF.out.tk, HF.out.hd, HF.out.ms, by show ((dn.take k) ++ c :: (dn.drop k)).length ≤ D + 1; rw [hl4]; have := HF.out.dn; simp only at this; omega⟩, (by repeat' (first | with_reducible exact Below.refl _ _ | with_reducible assumption | with_reducible refine Below.alloc ?_ ?_ _ | with_reducible refine Below.drew ?_ | with_reducible refine Below.setCell ?_ ?_ _ | omega | (simp; omega) | (simp; done)))⟩
            have h1 : Rob (Lo U.heap.size) (fun V' => IsSl V' (.slice a3 ((dn.take k) ++ c :: (dn.drop k)).length c3) 7 Cl.cs ((dn.take k) ++ c :: (dn.drop k))) V := RV2.out.rob seven_len
            have hXW : ∀ b, X b → b < U.heap.size := fun b hb => Nat.lt_of_lt_of_le (hX b hb) (by omega)
            refine fun V' hV' => ⟨((HO.out.below (by repeat' (first | with_reducible exact Below.refl _ _ | with_reducible assumption | with_reducible refine Below.alloc ?_ ?_ _ | with_reducible refine Below.drew ?_ | with_reducible refine Below.setCell ?_ ?_ _ | omega | (simp; omega) | (simp; done)))) V' hV').1, ((HO.out.below (by repeat' (first | with_reducible exact Below.refl _ _ | with_reducible assumption | with_reducible refine Below.alloc ?_ ?_ _ | with_reducible refine Below.drew ?_ | with_reducible refine Below.setCell ?_ ?_ _ | omega | (simp; omega) | (simp; done)))) V' hV').2.1, Rob.ofLo (B := U.heap.size) (F := fun V' => IsSl V' (.slice a3 ((dn.take k) ++ c :: (dn.drop k)).length c3) 7 Cl.cs ((dn.take k) ++ c :: (dn.drop k))) ?_ hXW V' hV'⟩
            repeat' (first | with_reducible exact h1 | refine Rob.set ?_ (by simp only; omega) _)
end Go.Proofs.Ytgdhieffjflejaa
