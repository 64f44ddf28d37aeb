/- A keeper that looks at all that it took (l5Go); condition: small sizes. -/
import Derived.Test.YtgdhieffjflejaaK4
set_option linter.unusedSimpArgs false
set_option linter.unusedVariables false
namespace Go.Proofs.Ytgdhieffjflejaa
open Go.RowKit Go.Joins

set_option maxRecDepth 100000 in
set_option maxHeartbeats 16000000 in
theorem l5Go_c (X : Nat → Prop) (T D : Nat) (r : Rk) (w : World) (h : Rob X r.ok w) (hf : r.fit T D) (hX : ∀ b, X b → b < w.heap.size) (hT : T ≤ 1000) (hD : D ≤ 900000) :
    Calls Try.prog 98 #[.agg #[.int .i64 r.me, .int .i64 r.view, .bool r.live, .int .i64 r.nx, .slice r.ta r.tk.length r.tc, .slice r.ha r.hd.length r.hc, .slice r.da r.dn.length r.dc]] w (KeepSays X T (D + T) T w) := by
  have HO := Lib.hid h
  have HF := Lib.hid hf
  clear h hf
  go_enter Try.func98, Try.ntmps98
  go_upto_region 1 with fail
  obtain ⟨W, hW_, sW, x, z, kW⟩ := blocks2 w (.cells #[.int .i64 r.me, .int .i64 r.view, .bool r.live, .int .i64 r.nx, .slice r.ta r.tk.length r.tc, .slice r.ha r.hd.length r.hc, .slice r.da r.dn.length r.dc] 78) (.cells #[.int .i64 0, .int .i64 0, .bool false, .int .i64 0, .slice none 0 0, .slice none 0 0, .slice none 0 0] 78)
  rw [← hW_]
  clear hW_
  have hsW : w.heap.size + 2 ≤ W.heap.size := by omega
  obtain ⟨X1, hlt, hin, hsub, hbx⟩ : ∃ X1 : Nat → Prop, (∀ b, X1 b → b < W.heap.size) ∧ (∀ b, w.heap.size ≤ b → b < W.heap.size → X1 b) ∧ (∀ b, X b → X1 b) ∧ ∀ F : World → Prop, Rob X F w → Rob X1 F W :=
    ⟨Bx X w.heap.size W.heap.size, Bx.lt hX (by omega), fun b h1 h2 => .inr ⟨h1, h2⟩, fun b hb => .inl hb, fun F hF => hF.box kW _⟩
  clear sW
  go_wp2_with fail
  obtain ⟨Y, hY_, sY, vY, kY⟩ := blocks1 W (.cells #[] 34)
  rw [← hY_]
  clear hY_ vY sY
  have hl2_ : w.heap.size + 1 < W.heap.size := by omega
  replace x := carryB kY (by omega) x
  replace z := carryB kY hl2_ z
  have R0 := Lib.hid ((hbx _ HO.out).below kY)
  have K0 := below_next kW kY
  have hs0 : W.heap.size ≤ Y.heap.size := kY.size
  clear kW kY hl2_ hbx
  go_loopw [4, 5] (fun st i wr => ∃ (k : Nat) (r1 : Rk) (a : Option Addr) (cc : Nat) (sy : List Mg), k ≤ T ∧ i = .int .i64 k ∧ st = .slice a sy.length cc ∧ wr.heap[w.heap.size]? = some (.cells #[.int .i64 r1.me, .int .i64 r1.view, .bool r1.live, .int .i64 r1.nx, .slice r1.ta r1.tk.length r1.tc, .slice r1.ha r1.hd.length r1.hc, .slice r1.da r1.dn.length r1.dc] 78 (0, 0)) ∧ wr.heap[w.heap.size + 1]? = some (.cells #[.int .i64 0, .int .i64 0, .bool false, .int .i64 0, .slice none 0 0, .slice none 0 0, .slice none 0 0] 78 (0, 0)) ∧
      Rob (OwX X1 a cc) r1.ok wr ∧ r1.fit T (D + k) ∧ Row wr W.heap.size 34 a cc 11 Mg.cs sy ∧ (∀ m ∈ sy, ∀ V, m.ok V) ∧ MsFit sy ∧ sy.length ≤ k ∧ W.heap.size ≤ wr.heap.size ∧ Below w.heap.size w wr) (fun _ i _ => T - (intOf i).toNat)
  case atStart => exact ⟨0, r, some ⟨W.heap.size, 0, none⟩, 0, [], Nat.zero_le _, rfl, rfl, x, z, R0.out.owX0, HF.out, Row.nil _ _ _ _ _ _, (fun m hm => nomatch hm), (fun m hm => nomatch hm), Nat.le_refl _, hs0, K0⟩
  case round =>
    clear x z R0 K0 hs0
    obtain ⟨k, r1, a, cc, sy, hk, rfl, rfl, x, z, hR, hF1, hRow, hAP, hMF, hHL, hs, K⟩ := hrel
    have R := Lib.hid hR
    have FF := Lib.hid hF1
    have RW := Lib.hid hRow
    have AP := Lib.hid hAP
    have MF := Lib.hid hMF
    have HL := Lib.hid hHL
    clear hR hF1 hRow hAP hMF hHL
    by_cases hlt2 : k < r1.tk.length
    · have HG := Lib.hid (show (∀ g, rowBlk a cc = some g → g < wr.heap.size) ∧ W.heap.size ≤ wr.heap.size from ⟨fun g hg => (RW.out.blk hg).2, hs⟩)
      have hkT0 : k < T := Nat.lt_of_lt_of_le hlt2 FF.out.tk
      have hk1 : (k : Int) < (r1.tk.length : Int) := by omega
      have hk0 : (0 : Int) ≤ (k : Int) := by omega
      obtain ⟨-, hlc, hmx, hrt⟩ := R.out.out.1.bounds
      unfold maxLen at hmx
      obtain ⟨b1, o1, ea, hl1, hd0⟩ := seven_at hrt k hlt2
      obtain ⟨d0, d1, d2, d3, d4, d5, d6⟩ := hd0 wr (Below.refl _ _)
      clear hd0 hrt
      generalize r1.tk[k] = c at *
      have EA := Lib.hid ea
      rw [ea] at x
      clear ea
      have cx := cell_of_block x
      have fx := unfrozen_of_block x
      have lx := lt_of_block x
      go_upto_region 6 with fail
      obtain ⟨V, hV, sV, v, kV⟩ := blocks1 wr (.cells #[.int .i64 c.s, .int .i64 c.v, .int .i64 c.r.c, .int .i64 c.r.n, .int .i64 c.r.o, .int .i64 c.r.x, .int .i64 c.r.y] 62)
      rw [← hV]
      clear hV d0 d1 d2 d3 d4 d5 d6
      clear cx fx lx
      rw [← EA.out] at x ⊢
      clear EA hl1
      replace x := carryB kV (lt_of_block x) x
      replace z := carryB kV (lt_of_block z) z
      replace R := Lib.hid (R.out.below kV)
      replace RW := Lib.hid (RW.out.below kV)
      replace K := below_next K kV
      replace hs := Nat.le_trans hs kV.size
      clear kV sV
      have cx := cell_of_block x
      have fx := unfrozen_of_block x
      have lx := lt_of_block x
      have cz := cell_of_block z
      have fz := unfrozen_of_block z
      have lz := lt_of_block z
      have cv := cell_of_block v
      have fv := unfrozen_of_block v
      have lv := lt_of_block v
      go_wp2_with fail
      refine (l5Is_w r1 c V R.out.out).mono ?_
      rintro e V1 ⟨b, rfl, k1_⟩
      clear cx fx lx cz fz lz cv fv lv
      replace x := carryB k1_ (lt_of_block x) x
      replace z := carryB k1_ (lt_of_block z) z
      replace v := carryB k1_ (lt_of_block v) v
      replace R := Lib.hid (R.out.below k1_)
      replace RW := Lib.hid (RW.out.below k1_)
      replace K := below_next K k1_
      replace hs := Nat.le_trans hs k1_.size
      clear k1_
      cases b with
      | false =>
        have X_ := Lib.hid x
        have Z_ := Lib.hid z
        have RR := Lib.hid R.out
        have hsE : W.heap.size ≤ V1.heap.size := hs
        have KE := Lib.hid K
        have hkT : k < T := hkT0
        clear x z R K hs hkT0
        go_wp2_with fail
        go_roundw
        case rel => exact ⟨k + 1, r1, a, cc, sy, by omega, by go_num, (by first | rfl | simp), X_.out, Z_.out, RR.out, FF.out.more (Nat.le_refl _) (by omega), RW.out, AP.out, MF.out, by have := HL.out; omega, hsE, KE.out⟩
        case measure => simp [intOf]; omega
      | true =>
        have cx := cell_of_block x
        have fx := unfrozen_of_block x
        have lx := lt_of_block x
        have cz := cell_of_block z
        have fz := unfrozen_of_block z
        have lz := lt_of_block z
        have cv := cell_of_block v
        have fv := unfrozen_of_block v
        have lv := lt_of_block v
        go_upto_region 8 with fail
        have HMX := Lib.hid hs
        obtain ⟨M, hM_, sM, m, kM⟩ := blocks1 V1 (.cells #[.int .i64 4, .int .i64 r1.me, .int .i64 c.v, .int .i64 c.s, .int .i64 c.r.c, .int .i64 c.r.n, .int .i64 c.r.o, .int .i64 c.r.x, .int .i64 c.r.y, .slice none 0 0, .slice none 0 0] 34)
        rw [← hM_]
        clear hM_ sM
        clear cx fx lx cz fz lz cv fv lv
        replace x := carryB kM (lt_of_block x) x
        replace z := carryB kM (lt_of_block z) z
        replace v := carryB kM (lt_of_block v) v
        replace R := Lib.hid (R.out.below kM)
        replace RW := Lib.hid (RW.out.below kM)
        replace K := below_next K kM
        replace hs := Nat.le_trans hs kM.size
        clear kM
        have cx := cell_of_block x
        have fx := unfrozen_of_block x
        have lx := lt_of_block x
        have cz := cell_of_block z
        have fz := unfrozen_of_block z
        have lz := lt_of_block z
        have cv := cell_of_block v
        have fv := unfrozen_of_block v
        have lv := lt_of_block v
        have cm := cell_of_block m
        have fm := unfrozen_of_block m
        have lm := lt_of_block m
        obtain ⟨ql, hql⟩ : ∃ q, r1.live = q := ⟨_, rfl⟩
        obtain ⟨qv, hqv⟩ : ∃ q, (r1.view == c.v) = q := ⟨_, rfl⟩
        cases ql with
        | false =>
          go_upto_region 11 with fail
          clear cx fx lx cz fz lz cv fv lv cm fm lm
          clear hql hqv m
          have cx := cell_of_block x
          have fx := unfrozen_of_block x
          have lx := lt_of_block x
          have cz := cell_of_block z
          have fz := unfrozen_of_block z
          have lz := lt_of_block z
          have cv := cell_of_block v
          have fv := unfrozen_of_block v
          have lv := lt_of_block v
          go_wp2_with fail
          refine (l4Count_w _ r1.hd 4 c M R.out.out.2.1).mono ?_
          rintro e u1 ⟨cnt, rfl, k1_⟩
          clear cx fx lx cz fz lz cv fv lv
          have lv_ := lt_of_block v
          replace x := carryB k1_ (lt_of_block x) x
          replace z := carryB k1_ (lt_of_block z) z
          replace v := carryB k1_ lv_ v
          replace R := Lib.hid (R.out.below k1_)
          replace RW := Lib.hid (RW.out.below k1_)
          replace K := below_next K k1_
          replace hs := Nat.le_trans hs k1_.size
          clear k1_ lv_
          have cx := cell_of_block x
          have fx := unfrozen_of_block x
          have lx := lt_of_block x
          have cz := cell_of_block z
          have fz := unfrozen_of_block z
          have lz := lt_of_block z
          have cv := cell_of_block v
          have fv := unfrozen_of_block v
          have lv := lt_of_block v
          obtain ⟨qc, hqc⟩ : ∃ q, decide ((3 : Int) ≤ cnt) = q := ⟨_, rfl⟩
          cases qc with
          | false =>
            clear cx fx lx cz fz lz cv fv lv
            have X_ := Lib.hid x
            have Z_ := Lib.hid z
            have RR := Lib.hid R.out
            have hsE : W.heap.size ≤ u1.heap.size := hs
            have KE := Lib.hid K
            have hkT : k < T := hkT0
            clear x z R K hs hkT0
            go_wp2_with fail
            go_roundw
            case rel => exact ⟨k + 1, r1, a, cc, sy, by omega, by go_num, (by first | rfl | simp), X_.out, Z_.out, RR.out, FF.out.more (Nat.le_refl _) (by omega), RW.out, AP.out, MF.out, by have := HL.out; omega, hsE, KE.out⟩
            case measure => simp [intOf]; omega
          | true =>
            go_wp2_with fail
            refine (l5Finish_c (OwX X1 a cc) T (D + k) r1 c u1 R.out FF.out (OwX.lt (fun b hb => Nat.lt_of_lt_of_le (hlt b hb) hs) RW.out) (by omega)).mono ?_
            rintro e t1 ⟨r9, rfl, hr9, hf9, k2_⟩
            clear cx fx lx cz fz lz cv fv lv
            replace x := carryB k2_ (lt_of_block x) x
            replace z := carryB k2_ (lt_of_block z) z
            replace v := carryB k2_ (lt_of_block v) v
            replace R := Lib.hid hr9
            replace FF := Lib.hid hf9
            replace RW := Lib.hid (RW.out.below k2_)
            replace K := below_next K k2_
            replace hs := Nat.le_trans hs k2_.size
            clear k2_ hr9 hf9
            have cx := cell_of_block x
            have fx := unfrozen_of_block x
            have lx := lt_of_block x
            go_upto_region 4 with fail
            obtain ⟨s1, hV_, sV, xV, oV, kV⟩ := stored7 t1 w.heap.size _ _ _ _ _ _ _ (.int .i64 r9.me) (.int .i64 r9.view) (.bool r9.live) (.int .i64 r9.nx) (.slice r9.ta r9.tk.length r9.tc) (.slice r9.ha r9.hd.length r9.hc) (.slice r9.da r9.dn.length r9.dc) x
            rw [← hV_]
            clear hV_
            clear cx fx lx
            replace x := xV
            replace z := (oV _ (by omega)).trans z
            replace R := Lib.hid (R.out.stored sV oV (.inl (hin _ (by omega) (by omega))))
            replace RW := Lib.hid (RW.out.later sV oV (by omega))
            replace K := K.trans (kV.mono (by omega))
            replace hs : W.heap.size ≤ s1.heap.size := by omega
            clear xV oV kV sV v
            have X_ := Lib.hid x
            have Z_ := Lib.hid z
            have RR := Lib.hid R.out
            have hsE : W.heap.size ≤ s1.heap.size := hs
            have KE := Lib.hid K
            have hkT : k < T := hkT0
            clear x z R K hs hkT0
            go_wp2_with fail
            go_roundw
            case rel => exact ⟨k + 1, r9, a, cc, sy, by omega, by go_num, (by first | rfl | simp), X_.out, Z_.out, RR.out, FF.out.more (Nat.le_refl _) (by omega), RW.out, AP.out, MF.out, by have := HL.out; omega, hsE, KE.out⟩
            case measure => simp [intOf]; omega
        | true =>
          cases qv with
          | false =>
            go_upto_region 11 with fail
            clear cx fx lx cz fz lz cv fv lv cm fm lm
            clear hql hqv m
            have cx := cell_of_block x
            have fx := unfrozen_of_block x
            have lx := lt_of_block x
            have cz := cell_of_block z
            have fz := unfrozen_of_block z
            have lz := lt_of_block z
            have cv := cell_of_block v
            have fv := unfrozen_of_block v
            have lv := lt_of_block v
            go_wp2_with fail
            refine (l4Count_w _ r1.hd 4 c M R.out.out.2.1).mono ?_
            rintro e u2 ⟨cnt, rfl, k1_⟩
            clear cx fx lx cz fz lz cv fv lv
            have lv_ := lt_of_block v
            replace x := carryB k1_ (lt_of_block x) x
            replace z := carryB k1_ (lt_of_block z) z
            replace v := carryB k1_ lv_ v
            replace R := Lib.hid (R.out.below k1_)
            replace RW := Lib.hid (RW.out.below k1_)
            replace K := below_next K k1_
            replace hs := Nat.le_trans hs k1_.size
            clear k1_ lv_
            have cx := cell_of_block x
            have fx := unfrozen_of_block x
            have lx := lt_of_block x
            have cz := cell_of_block z
            have fz := unfrozen_of_block z
            have lz := lt_of_block z
            have cv := cell_of_block v
            have fv := unfrozen_of_block v
            have lv := lt_of_block v
            obtain ⟨qc, hqc⟩ : ∃ q, decide ((3 : Int) ≤ cnt) = q := ⟨_, rfl⟩
            cases qc with
            | false =>
              clear cx fx lx cz fz lz cv fv lv
              have X_ := Lib.hid x
              have Z_ := Lib.hid z
              have RR := Lib.hid R.out
              have hsE : W.heap.size ≤ u2.heap.size := hs
              have KE := Lib.hid K
              have hkT : k < T := hkT0
              clear x z R K hs hkT0
              go_wp2_with fail
              go_roundw
              case rel => exact ⟨k + 1, r1, a, cc, sy, by omega, by go_num, (by first | rfl | simp), X_.out, Z_.out, RR.out, FF.out.more (Nat.le_refl _) (by omega), RW.out, AP.out, MF.out, by have := HL.out; omega, hsE, KE.out⟩
              case measure => simp [intOf]; omega
            | true =>
              go_wp2_with fail
              refine (l5Finish_c (OwX X1 a cc) T (D + k) r1 c u2 R.out FF.out (OwX.lt (fun b hb => Nat.lt_of_lt_of_le (hlt b hb) hs) RW.out) (by omega)).mono ?_
              rintro e t2 ⟨r9, rfl, hr9, hf9, k2_⟩
              clear cx fx lx cz fz lz cv fv lv
              replace x := carryB k2_ (lt_of_block x) x
              replace z := carryB k2_ (lt_of_block z) z
              replace v := carryB k2_ (lt_of_block v) v
              replace R := Lib.hid hr9
              replace FF := Lib.hid hf9
              replace RW := Lib.hid (RW.out.below k2_)
              replace K := below_next K k2_
              replace hs := Nat.le_trans hs k2_.size
              clear k2_ hr9 hf9
              have cx := cell_of_block x
              have fx := unfrozen_of_block x
              have lx := lt_of_block x
              go_upto_region 4 with fail
              obtain ⟨s2, hV_, sV, xV, oV, kV⟩ := stored7 t2 w.heap.size _ _ _ _ _ _ _ (.int .i64 r9.me) (.int .i64 r9.view) (.bool r9.live) (.int .i64 r9.nx) (.slice r9.ta r9.tk.length r9.tc) (.slice r9.ha r9.hd.length r9.hc) (.slice r9.da r9.dn.length r9.dc) x
              rw [← hV_]
              clear hV_
              clear cx fx lx
              replace x := xV
              replace z := (oV _ (by omega)).trans z
              replace R := Lib.hid (R.out.stored sV oV (.inl (hin _ (by omega) (by omega))))
              replace RW := Lib.hid (RW.out.later sV oV (by omega))
              replace K := K.trans (kV.mono (by omega))
              replace hs : W.heap.size ≤ s2.heap.size := by omega
              clear xV oV kV sV v
              have X_ := Lib.hid x
              have Z_ := Lib.hid z
              have RR := Lib.hid R.out
              have hsE : W.heap.size ≤ s2.heap.size := hs
              have KE := Lib.hid K
              have hkT : k < T := hkT0
              clear x z R K hs hkT0
              go_wp2_with fail
              go_roundw
              case rel => exact ⟨k + 1, r9, a, cc, sy, by omega, by go_num, (by first | rfl | simp), X_.out, Z_.out, RR.out, FF.out.more (Nat.le_refl _) (by omega), RW.out, AP.out, MF.out, by have := HL.out; omega, hsE, KE.out⟩
              case measure => simp [intOf]; omega
          | true =>
            go_wp2_with fail
            refine (l3Has_c _ _ r1.hd (plainM 4 r1.me c.v c.s c.r) M R.out.out.2.1 (plainM_is _ _ _ _ _ _)).mono ?_
            rintro e M1 ⟨rfl, k1_⟩
            clear cx fx lx cz fz lz cv fv lv cm fm lm
            have lv_ := lt_of_block v
            have lm_ := lt_of_block m
            replace x := carryB k1_ (lt_of_block x) x
            replace z := carryB k1_ (lt_of_block z) z
            replace v := carryB k1_ lv_ v
            replace m := carryB k1_ lm_ m
            replace R := Lib.hid (R.out.below k1_)
            replace RW := Lib.hid (RW.out.below k1_)
            replace K := below_next K k1_
            replace hs := Nat.le_trans hs k1_.size
            clear k1_ lv_ lm_
            generalize hasM r1.hd (plainM 4 r1.me c.v c.s c.r) = bh
            cases bh with
            | true =>
              go_upto_region 11 with fail
              clear hql hqv m
              have cx := cell_of_block x
              have fx := unfrozen_of_block x
              have lx := lt_of_block x
              have cz := cell_of_block z
              have fz := unfrozen_of_block z
              have lz := lt_of_block z
              have cv := cell_of_block v
              have fv := unfrozen_of_block v
              have lv := lt_of_block v
              go_wp2_with fail
              refine (l4Count_w _ r1.hd 4 c M1 R.out.out.2.1).mono ?_
              rintro e u3 ⟨cnt, rfl, k1_⟩
              clear cx fx lx cz fz lz cv fv lv
              have lv_ := lt_of_block v
              replace x := carryB k1_ (lt_of_block x) x
              replace z := carryB k1_ (lt_of_block z) z
              replace v := carryB k1_ lv_ v
              replace R := Lib.hid (R.out.below k1_)
              replace RW := Lib.hid (RW.out.below k1_)
              replace K := below_next K k1_
              replace hs := Nat.le_trans hs k1_.size
              clear k1_ lv_
              have cx := cell_of_block x
              have fx := unfrozen_of_block x
              have lx := lt_of_block x
              have cz := cell_of_block z
              have fz := unfrozen_of_block z
              have lz := lt_of_block z
              have cv := cell_of_block v
              have fv := unfrozen_of_block v
              have lv := lt_of_block v
              obtain ⟨qc, hqc⟩ : ∃ q, decide ((3 : Int) ≤ cnt) = q := ⟨_, rfl⟩
              cases qc with
              | false =>
                clear cx fx lx cz fz lz cv fv lv
                have X_ := Lib.hid x
                have Z_ := Lib.hid z
                have RR := Lib.hid R.out
                have hsE : W.heap.size ≤ u3.heap.size := hs
                have KE := Lib.hid K
                have hkT : k < T := hkT0
                clear x z R K hs hkT0
                go_wp2_with fail
                go_roundw
                case rel => exact ⟨k + 1, r1, a, cc, sy, by omega, by go_num, (by first | rfl | simp), X_.out, Z_.out, RR.out, FF.out.more (Nat.le_refl _) (by omega), RW.out, AP.out, MF.out, by have := HL.out; omega, hsE, KE.out⟩
                case measure => simp [intOf]; omega
              | true =>
                go_wp2_with fail
                refine (l5Finish_c (OwX X1 a cc) T (D + k) r1 c u3 R.out FF.out (OwX.lt (fun b hb => Nat.lt_of_lt_of_le (hlt b hb) hs) RW.out) (by omega)).mono ?_
                rintro e t3 ⟨r9, rfl, hr9, hf9, k2_⟩
                clear cx fx lx cz fz lz cv fv lv
                replace x := carryB k2_ (lt_of_block x) x
                replace z := carryB k2_ (lt_of_block z) z
                replace v := carryB k2_ (lt_of_block v) v
                replace R := Lib.hid hr9
                replace FF := Lib.hid hf9
                replace RW := Lib.hid (RW.out.below k2_)
                replace K := below_next K k2_
                replace hs := Nat.le_trans hs k2_.size
                clear k2_ hr9 hf9
                have cx := cell_of_block x
                have fx := unfrozen_of_block x
                have lx := lt_of_block x
                go_upto_region 4 with fail
                obtain ⟨s3, hV_, sV, xV, oV, kV⟩ := stored7 t3 w.heap.size _ _ _ _ _ _ _ (.int .i64 r9.me) (.int .i64 r9.view) (.bool r9.live) (.int .i64 r9.nx) (.slice r9.ta r9.tk.length r9.tc) (.slice r9.ha r9.hd.length r9.hc) (.slice r9.da r9.dn.length r9.dc) x
                rw [← hV_]
                clear hV_
                clear cx fx lx
                replace x := xV
                replace z := (oV _ (by omega)).trans z
                replace R := Lib.hid (R.out.stored sV oV (.inl (hin _ (by omega) (by omega))))
                replace RW := Lib.hid (RW.out.later sV oV (by omega))
                replace K := K.trans (kV.mono (by omega))
                replace hs : W.heap.size ≤ s3.heap.size := by omega
                clear xV oV kV sV v
                have X_ := Lib.hid x
                have Z_ := Lib.hid z
                have RR := Lib.hid R.out
                have hsE : W.heap.size ≤ s3.heap.size := hs
                have KE := Lib.hid K
                have hkT : k < T := hkT0
                clear x z R K hs hkT0
                go_wp2_with fail
                go_roundw
                case rel => exact ⟨k + 1, r9, a, cc, sy, by omega, by go_num, (by first | rfl | simp), X_.out, Z_.out, RR.out, FF.out.more (Nat.le_refl _) (by omega), RW.out, AP.out, MF.out, by have := HL.out; omega, hsE, KE.out⟩
                case measure => simp [intOf]; omega
            | false =>
              go_upto_region 9 with fail
              clear hql hqv
              have cx := cell_of_block x
              have fx := unfrozen_of_block x
              have lx := lt_of_block x
              have cz := cell_of_block z
              have fz := unfrozen_of_block z
              have lz := lt_of_block z
              have cv := cell_of_block v
              have fv := unfrozen_of_block v
              have lv := lt_of_block v
              have cm := cell_of_block m
              have fm := unfrozen_of_block m
              have lm := lt_of_block m
              go_wp2_with fail
              refine (l5Note_c (OwX X1 a cc) T (D + k) r1 _ (plainM 4 r1.me c.v c.s c.r) M1 R.out FF.out (plainM_is _ _ _ _ _ _) (plainM_fit _ _ _ _ _) (OwX.lt (fun b hb => Nat.lt_of_lt_of_le (hlt b hb) hs) RW.out) (by omega)).mono ?_
              rintro e M2 ⟨r2, rfl, hr2, hf2, k2_⟩
              clear cx fx lx cz fz lz cv fv lv cm fm lm
              have lv_ := lt_of_block v
              have lm_ := lt_of_block m
              replace x := carryB k2_ (lt_of_block x) x
              replace z := carryB k2_ (lt_of_block z) z
              replace v := carryB k2_ lv_ v
              replace m := carryB k2_ lm_ m
              replace R := Lib.hid hr2
              replace FF := Lib.hid hf2
              replace RW := Lib.hid (RW.out.below k2_)
              replace K := below_next K k2_
              replace hs := Nat.le_trans hs k2_.size
              clear k2_ lv_ lm_ hr2 hf2
              have cx := cell_of_block x
              have fx := unfrozen_of_block x
              have lx := lt_of_block x
              go_upto_region 10 with fail
              obtain ⟨M3, hV_, sV, xV, oV, kV⟩ := stored7 M2 w.heap.size _ _ _ _ _ _ _ (.int .i64 r2.me) (.int .i64 r2.view) (.bool r2.live) (.int .i64 r2.nx) (.slice r2.ta r2.tk.length r2.tc) (.slice r2.ha r2.hd.length r2.hc) (.slice r2.da r2.dn.length r2.dc) x
              rw [← hV_]
              clear hV_
              clear cx fx lx
              replace x := xV
              replace z := (oV _ (by omega)).trans z
              have hvx := HG.out.2
              have hmx := HMX.out
              replace v := (oV _ (by omega)).trans v
              replace m := (oV _ (by omega)).trans m
              replace R := Lib.hid (R.out.stored sV oV (.inl (hin _ (by omega) (by omega))))
              replace RW := Lib.hid (RW.out.later sV oV (by omega))
              replace K := K.trans (kV.mono (by omega))
              replace hs : W.heap.size ≤ M3.heap.size := by omega
              clear xV oV kV sV
              have cx := cell_of_block x
              have fx := unfrozen_of_block x
              have lx := lt_of_block x
              have cz := cell_of_block z
              have fz := unfrozen_of_block z
              have lz := lt_of_block z
              have cv := cell_of_block v
              have fv := unfrozen_of_block v
              have lv := lt_of_block v
              have cm := cell_of_block m
              have fm := unfrozen_of_block m
              have lm := lt_of_block m
              have hsy : sy.length ≤ 1000 := by have := HL.out; omega
              go_wp2_with (at_builtin; refine wpList_append_rowM rfl _ _ rfl (sy.length + 1) elmMg rfl rfl (RW.out.below ((Below.refl M3.heap.size M3).alloc (Nat.le_refl _) _)) (ys := [(plainM 4 r1.me c.v c.s c.r)]) (fun z hz => List.mem_singleton.1 hz ▸ mg_one (w := M3) (plainM_ok _ _ _ _ _ _)) (rows_of_block (R := Mg.cs) (zs := [(plainM 4 r1.me c.v c.s c.r)]) (fun _ => rfl) (heap_alloc_new M3 _)) rfl rfl rfl (by simp only [maxLen]; omega) (by omega) (by simp; omega) ?_)
              intro a2 c2 M4 q2
              have hrb_ : ∀ g, rowBlk a cc = some g → W.heap.size ≤ g := fun g hg => (RW.out.blk hg).1
              have kA : Below M3.heap.size M3 (M3.alloc (.cells #[.int .i64 4, .int .i64 r1.me, .int .i64 c.v, .int .i64 c.s, .int .i64 c.r.c, .int .i64 c.r.n, .int .i64 c.r.o, .int .i64 c.r.x, .int .i64 c.r.y, .slice none 0 0, .slice none 0 0] 34)) := (Below.refl M3.heap.size M3).alloc (Nat.le_refl _) _
              have k4 : Below W.heap.size M3 M4 := (kA.mono hs).trans (q2.below (by simp; omega) hrb_)
              have lv_ := lt_of_block v
              replace v := (q2.grown.block _ (by simp; omega) (fun e => by have := HG.out.1 _ e.symm; omega)).trans ((kA.block _ lv_).trans v)
              clear cx fx lx cz fz lz cv fv lv cm fm lm
              replace x := carryB k4 (by omega) x
              replace z := carryB k4 (by omega) z
              replace R := Lib.hid ((R.out.below kA).appendedX q2)
              have RW2 := Lib.hid q2.row
              replace K := K.trans (k4.mono (by omega))
              replace hs := Nat.le_trans hs k4.size
              have AP2 := Lib.hid (show ∀ m ∈ sy ++ [(plainM 4 r1.me c.v c.s c.r)], ∀ V, m.ok V from fun m hm V => by
                rcases List.mem_append.1 hm with h' | h'
                · exact AP.out m h' V
                · exact List.mem_singleton.1 h' ▸ plainM_ok _ _ _ _ _ _)
              have MF2 := Lib.hid (fit_snoc MF.out (plainM_fit 4 r1.me c.v c.s c.r))
              clear RW AP MF k4 kA q2 hrb_ lv_ m hvx hmx
              have RW := Lib.hid RW2.out
              have AP := Lib.hid AP2.out
              have MF := Lib.hid MF2.out
              clear RW2 AP2 MF2
              have cx := cell_of_block x
              have fx := unfrozen_of_block x
              have lx := lt_of_block x
              have cz := cell_of_block z
              have fz := unfrozen_of_block z
              have lz := lt_of_block z
              have cv := cell_of_block v
              have fv := unfrozen_of_block v
              have lv := lt_of_block v
              go_wp2_with fail
              refine (l4Count_w _ r2.hd 4 c M4 R.out.out.2.1).mono ?_
              rintro e u4 ⟨cnt, rfl, k1_⟩
              clear cx fx lx cz fz lz cv fv lv
              have lv_ := lt_of_block v
              replace x := carryB k1_ (lt_of_block x) x
              replace z := carryB k1_ (lt_of_block z) z
              replace v := carryB k1_ lv_ v
              replace R := Lib.hid (R.out.below k1_)
              replace RW := Lib.hid (RW.out.below k1_)
              replace K := below_next K k1_
              replace hs := Nat.le_trans hs k1_.size
              clear k1_ lv_
              have cx := cell_of_block x
              have fx := unfrozen_of_block x
              have lx := lt_of_block x
              have cz := cell_of_block z
              have fz := unfrozen_of_block z
              have lz := lt_of_block z
              have cv := cell_of_block v
              have fv := unfrozen_of_block v
              have lv := lt_of_block v
              obtain ⟨qc, hqc⟩ : ∃ q, decide ((3 : Int) ≤ cnt) = q := ⟨_, rfl⟩
              cases qc with
              | false =>
                clear cx fx lx cz fz lz cv fv lv
                have X_ := Lib.hid x
                have Z_ := Lib.hid z
                have RR := Lib.hid R.out
                have hsE : W.heap.size ≤ u4.heap.size := hs
                have KE := Lib.hid K
                have hkT : k < T := hkT0
                clear x z R K hs hkT0
                go_wp2_with fail
                go_roundw
                case rel => exact ⟨k + 1, r2, a2, c2, (sy ++ [(plainM 4 r1.me c.v c.s c.r)]), by omega, by go_num, (by first | rfl | simp), X_.out, Z_.out, RR.out, FF.out.more (Nat.le_refl _) (by omega), RW.out, AP.out, MF.out, by have := HL.out; simp; omega, hsE, KE.out⟩
                case measure => simp [intOf]; omega
              | true =>
                go_wp2_with fail
                refine (l5Finish_c (OwX X1 a2 c2) T (D + k) r2 c u4 R.out FF.out (OwX.lt (fun b hb => Nat.lt_of_lt_of_le (hlt b hb) hs) RW.out) (by omega)).mono ?_
                rintro e t4 ⟨r9, rfl, hr9, hf9, k2_⟩
                clear cx fx lx cz fz lz cv fv lv
                replace x := carryB k2_ (lt_of_block x) x
                replace z := carryB k2_ (lt_of_block z) z
                replace v := carryB k2_ (lt_of_block v) v
                replace R := Lib.hid hr9
                replace FF := Lib.hid hf9
                replace RW := Lib.hid (RW.out.below k2_)
                replace K := below_next K k2_
                replace hs := Nat.le_trans hs k2_.size
                clear k2_ hr9 hf9
                have cx := cell_of_block x
                have fx := unfrozen_of_block x
                have lx := lt_of_block x
                go_upto_region 4 with fail
                obtain ⟨s4, hV_, sV, xV, oV, kV⟩ := stored7 t4 w.heap.size _ _ _ _ _ _ _ (.int .i64 r9.me) (.int .i64 r9.view) (.bool r9.live) (.int .i64 r9.nx) (.slice r9.ta r9.tk.length r9.tc) (.slice r9.ha r9.hd.length r9.hc) (.slice r9.da r9.dn.length r9.dc) x
                rw [← hV_]
                clear hV_
                clear cx fx lx
                replace x := xV
                replace z := (oV _ (by omega)).trans z
                replace R := Lib.hid (R.out.stored sV oV (.inl (hin _ (by omega) (by omega))))
                replace RW := Lib.hid (RW.out.later sV oV (by omega))
                replace K := K.trans (kV.mono (by omega))
                replace hs : W.heap.size ≤ s4.heap.size := by omega
                clear xV oV kV sV v
                have X_ := Lib.hid x
                have Z_ := Lib.hid z
                have RR := Lib.hid R.out
                have hsE : W.heap.size ≤ s4.heap.size := hs
                have KE := Lib.hid K
                have hkT : k < T := hkT0
                clear x z R K hs hkT0
                go_wp2_with fail
                go_roundw
                case rel => exact ⟨k + 1, r9, a2, c2, (sy ++ [(plainM 4 r1.me c.v c.s c.r)]), by omega, by go_num, (by first | rfl | simp), X_.out, Z_.out, RR.out, FF.out.more (Nat.le_refl _) (by omega), RW.out, AP.out, MF.out, by have := HL.out; simp; omega, hsE, KE.out⟩
                case measure => simp [intOf]; omega
    · obtain ⟨hcl, -⟩ : W.heap.size ≤ wr.heap.size ∧ True := ⟨hs, trivial⟩
      have hkf : ¬ ((k : Int) < (r1.tk.length : Int)) := by omega
      have cx := cell_of_block x
      have fx := unfrozen_of_block x
      have lx := lt_of_block x
      have cz := cell_of_block z
      have fz := unfrozen_of_block z
      have lz := lt_of_block z
      go_wp2_with fail
      refine bodyPost_ret (v := .tuple #[.agg #[.int .i64 r1.me, .int .i64 r1.view, .bool r1.live, .int .i64 r1.nx, .slice r1.ta r1.tk.length r1.tc, .slice r1.ha r1.hd.length r1.hc, .slice r1.da r1.dn.length r1.dc], .slice a sy.length cc]) (by simp [results, Try.results98, go_sem, cz]) rfl ?_
      refine ⟨r1, a, cc, sy, rfl, Rob.weak (X := OwX X1 a cc) ?_ (fun b hb => .inl (hsub b hb)), FF.out.more (Nat.le_refl _) (by omega), fun V' hV' => ⟨Rob.ofLo (B := W.heap.size) (F := fun V' => IsSl V' (.slice a sy.length cc) 11 Mg.cs sy) ?_ (fun b hb => hlt b (hsub b hb)) V' hV', fun m' hm' => AP.out m' hm' V'⟩, MF.out, by have := HL.out; omega, (by repeat' (first | with_reducible exact Below.refl _ _ | with_reducible assumption | with_reducible refine Below.alloc ?_ ?_ _ | with_reducible refine Below.drew ?_ | with_reducible refine Below.setCell ?_ ?_ _ | omega | (simp; omega) | (simp; done)))⟩
      · have hR := R.out
        repeat' (first | with_reducible exact hR | refine Rob.setX ?_ (.inl (hin _ (by simp only; omega) (by simp only; omega))) _)
      · have h1 : Rob (Lo W.heap.size) (fun V' => IsSl V' (.slice a sy.length cc) 11 Mg.cs sy) wr := RW.out.rob eleven_len
        repeat' (first | with_reducible exact h1 | refine Rob.set ?_ (by simp only; omega) _)
end Go.Proofs.Ytgdhieffjflejaa
