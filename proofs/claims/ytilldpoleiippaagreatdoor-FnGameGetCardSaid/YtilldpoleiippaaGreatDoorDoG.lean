/- The reference's l2Do, of a game that is ok; no other condition. -/
import Derived.Test.YtilldpoleiippaaGreatDoorOwnX
import Derived.Test.YtilldpoleiippaaGreatDoorActC
import Derived.Test.YtilldpoleiippaaGreatDoorJoinG
import Derived.Test.YtilldpoleiippaaGreatDoorFoldLaw
import Derived.Test.YtilldpoleiippaaGreatDoorMA
set_option linter.unusedSimpArgs false
set_option linter.unusedVariables false
namespace Go.Proofs.YtilldpoleiippaaGreatDoor
open Go.RowKit Go.Joins

set_option maxRecDepth 100000 in
set_option maxHeartbeats 8000000 in
theorem l2Do_none {B : Nat} {X : Nat → Prop} (es : List Rq) (fl la : List Int) (n0 : Nat) (a0 a1 a2 : Option Addr) (c0 c1 c2 : Nat) (c n o x y : Int) (w : World) (h : OwnX X w B a0 c0 a1 c1 a2 c2 ⟨es, fl, la⟩) (hn0 : es.length = n0) (hn1 : fl.length = 16) (hn2 : la.length = 4) (h4 : n0 ≤ 4) (hB : B ≤ w.heap.size) (hnone : noneB c n o x y = true) :
    Calls Tryz.prog 51 #[.agg #[.slice a0 n0 c0, .slice a1 16 c1, .slice a2 4 c2], .agg #[.int .i64 c, .int .i64 n, .int .i64 o, .int .i64 x, .int .i64 y]] w (RetX X B ⟨es, fl, la⟩ 2 w) := by
  have O := Lib.hid h
  have HN0 := Lib.hid hn0
  have HN1 := Lib.hid hn1
  have HN2 := Lib.hid hn2
  have hle2 : 4 ≤ c2 := by have := h.l.len; simp only at this; omega
  clear h hn0 hn1 hn2
  go_enter Tryz.func51, Tryz.ntmps51
  go_upto_region 1 with fail
  obtain ⟨W, hW, sW, aW, qW, bW, kW⟩ := blocks3 w (.cells #[.slice a0 n0 c0, .slice a1 16 c1, .slice a2 4 c2] 27) (.cells #[.int .i64 c, .int .i64 n, .int .i64 o, .int .i64 x, .int .i64 y] 79) (.cells #[.slice none 0 0, .slice none 0 0, .slice none 0 0] 27)
  rw [← hW]
  clear hW sW
  have KX := Lib.hid kW
  have cQ := cell_of_block qW
  clear kW
  go_wp2_with fail
  refine (l1None_c c n o x y W).mono ?_
  rintro e w1 ⟨rfl, k1⟩
  rw [hnone]
  replace aW := carryN k1 aW
  replace bW := carryN k1 bW
  replace qW := carryN k1 qW
  replace KX := Lib.hid (below_next KX.out k1)
  clear k1 cQ
  have cA := cell_of_block aW
  have cQ := cell_of_block qW
  have cB := cell_of_block bW
  have fB := unfrozen_of_block bW
  have lA := lt_of_block aW
  have lB := lt_of_block bW
  have lQ := lt_of_block qW
  go_wp2_with fail
  refine bodyPost_ret (v := .tuple #[.agg #[.slice a0 n0 c0, .slice a1 16 c1, .slice a2 4 c2], .int .i64 2]) (by simp [results, Tryz.results51, go_sem, cB]) rfl ?_
  have KX' := KX.out
  exact ⟨_, rfl, (O.out.below (by repeat' (first | with_reducible exact Below.refl _ _ | with_reducible assumption | with_reducible refine Below.alloc ?_ ?_ _ | with_reducible refine Below.drew ?_ | with_reducible refine Below.setCell ?_ ?_ _ | omega | (simp; omega) | (simp; done)))).gmV HN0.out HN1.out HN2.out, (by repeat' (first | with_reducible exact Below.refl _ _ | with_reducible assumption | with_reducible refine Below.alloc ?_ ?_ _ | with_reducible refine Below.drew ?_ | with_reducible refine Below.setCell ?_ ?_ _ | omega | (simp; omega) | (simp; done)))⟩
set_option maxRecDepth 100000 in
set_option maxHeartbeats 8000000 in
theorem l2Do_old {B : Nat} {X : Nat → Prop} (es : List Rq) (fl la : List Int) (n0 : Nat) (a0 a1 a2 : Option Addr) (c0 c1 c2 : Nat) (c n o x y : Int) (w : World) (h : OwnX X w B a0 c0 a1 c1 a2 c2 ⟨es, fl, la⟩) (hn0 : es.length = n0) (hn1 : fl.length = 16) (hn2 : la.length = 4) (h4 : n0 ≤ 4) (hB : B ≤ w.heap.size) (hc : 1 ≤ c ∧ c ≤ 4) (hn : 1 ≤ n ∧ n ≤ 30) (hnone : noneB c n o x y = false) (hold : n ≤ la.getD (c - 1).toNat 0) :
    Calls Tryz.prog 51 #[.agg #[.slice a0 n0 c0, .slice a1 16 c1, .slice a2 4 c2], .agg #[.int .i64 c, .int .i64 n, .int .i64 o, .int .i64 x, .int .i64 y]] w (RetX X B ⟨es, fl, la⟩ 3 w) := by
  have O := Lib.hid h
  have HN0 := Lib.hid hn0
  have HN1 := Lib.hid hn1
  have HN2 := Lib.hid hn2
  have hle2 : 4 ≤ c2 := by have := h.l.len; simp only at this; omega
  clear h hn0 hn1 hn2
  go_enter Tryz.func51, Tryz.ntmps51
  go_upto_region 1 with fail
  obtain ⟨W, hW, sW, aW, qW, bW, kW⟩ := blocks3 w (.cells #[.slice a0 n0 c0, .slice a1 16 c1, .slice a2 4 c2] 27) (.cells #[.int .i64 c, .int .i64 n, .int .i64 o, .int .i64 x, .int .i64 y] 79) (.cells #[.slice none 0 0, .slice none 0 0, .slice none 0 0] 27)
  rw [← hW]
  clear hW sW
  have KX := Lib.hid kW
  have cQ := cell_of_block qW
  clear kW
  go_wp2_with fail
  refine (l1None_c c n o x y W).mono ?_
  rintro e w1 ⟨rfl, k1⟩
  rw [hnone]
  replace aW := carryN k1 aW
  replace bW := carryN k1 bW
  replace qW := carryN k1 qW
  replace KX := Lib.hid (below_next KX.out k1)
  clear k1 cQ
  obtain ⟨i, hi, hi4⟩ : ∃ i : Nat, c - 1 = (i : Int) ∧ i < 4 := ⟨(c - 1).toNat, by omega, by omega⟩
  have hci : (c - 1).toNat = i := by omega
  have hw1 : IntKind.i64.wrap (c - 1) = c - 1 := IntWalk.i64_in _ ⟨by omega, by omega⟩
  have hi0 : (0 : Int) ≤ (i : Int) := by omega
  have hi1 : (i : Int) < 4 := by omega
  obtain ⟨f0, hf0, -, hf0l, ef, -, hrf0⟩ := (O.out.below KX.out).l.intAt (i := i) (by simp only; rw [HN2.out]; exact hi4)
  simp only at ef
  have hiz : i < la.length := by rw [HN2.out]; exact hi4
  rw [hci, List.getD_eq_getElem?_getD, List.getElem?_eq_getElem hiz, Option.getD_some] at hold
  have HCI := Lib.hid hci
  subst hf0
  generalize hlv : la[i] = v at *
  have e1 := cell_regrown ef
  have ga := cellRe aW
  have gq := cellRe qW
  have hd : decide (n ≤ v) = true := by simp; omega
  clear hci ef hlv
  have cQ := cell_of_block qW
  go_wp2_with fail
  refine wp_region_quiet_below (by kernel_rfl) (by kernel_rfl) ?_
  repeat (go_big_quiet_step (fail))
  refine wpQuiet_nil ?_
  intro _ hw'
  obtain ⟨⟨dq, osq⟩, hw''⟩ := hw'
  subst hw''
  have hkb := below_regrown w1 dq osq
  replace aW := carryN hkb aW
  replace bW := carryN hkb bW
  replace qW := carryN hkb qW
  replace KX := Lib.hid (below_next KX.out hkb)
  clear hkb e1 ga gq cQ
  generalize Sort.grow (redrawn w1 dq) osq = X at *
  have cA := cell_of_block aW
  have cQ := cell_of_block qW
  have cB := cell_of_block bW
  have fB := unfrozen_of_block bW
  have lA := lt_of_block aW
  have lB := lt_of_block bW
  have lQ := lt_of_block qW
  go_wp2_with fail
  refine bodyPost_ret (v := .tuple #[.agg #[.slice a0 n0 c0, .slice a1 16 c1, .slice (some ⟨f0, 0, none⟩) 4 c2], .int .i64 3]) (by simp [results, Tryz.results51, go_sem, cB]) rfl ?_
  have KX' := KX.out
  exact ⟨_, rfl, (O.out.below (by repeat' (first | with_reducible exact Below.refl _ _ | with_reducible assumption | with_reducible refine Below.alloc ?_ ?_ _ | with_reducible refine Below.drew ?_ | with_reducible refine Below.setCell ?_ ?_ _ | omega | (simp; omega) | (simp; done)))).gmV HN0.out HN1.out HN2.out, (by repeat' (first | with_reducible exact Below.refl _ _ | with_reducible assumption | with_reducible refine Below.alloc ?_ ?_ _ | with_reducible refine Below.drew ?_ | with_reducible refine Below.setCell ?_ ?_ _ | omega | (simp; omega) | (simp; done)))⟩
set_option maxRecDepth 100000 in
set_option maxHeartbeats 8000000 in
theorem l2Do_there {B : Nat} {X : Nat → Prop} (es : List Rq) (fl la : List Int) (n0 : Nat) (a0 a1 a2 : Option Addr) (c0 c1 c2 : Nat) (c n o x y : Int) (w : World) (h : OwnX X w B a0 c0 a1 c1 a2 c2 ⟨es, fl, la⟩) (hn0 : es.length = n0) (hn1 : fl.length = 16) (hn2 : la.length = 4) (h4 : n0 ≤ 4) (hB : B ≤ w.heap.size) (hc : 1 ≤ c ∧ c ≤ 4) (hn : 1 ≤ n ∧ n ≤ 30) (hnone : noneB c n o x y = false) (hold : ¬ n ≤ la.getD (c - 1).toNat 0) (k : Nat) (hfig : figAt es c = some k) (ho1 : o = 1) :
    Calls Tryz.prog 51 #[.agg #[.slice a0 n0 c0, .slice a1 16 c1, .slice a2 4 c2], .agg #[.int .i64 c, .int .i64 n, .int .i64 o, .int .i64 x, .int .i64 y]] w (RetX X B ⟨es, fl, la.set (c - 1).toNat n⟩ 4 w) := by
  subst ho1
  have O := Lib.hid h
  have HN0 := Lib.hid hn0
  have HN1 := Lib.hid hn1
  have HN2 := Lib.hid hn2
  have hle2 : 4 ≤ c2 := by have := h.l.len; simp only at this; omega
  clear h hn0 hn1 hn2
  go_enter Tryz.func51, Tryz.ntmps51
  go_upto_region 1 with fail
  obtain ⟨W, hW, sW, aW, qW, bW, kW⟩ := blocks3 w (.cells #[.slice a0 n0 c0, .slice a1 16 c1, .slice a2 4 c2] 27) (.cells #[.int .i64 c, .int .i64 n, .int .i64 1, .int .i64 x, .int .i64 y] 79) (.cells #[.slice none 0 0, .slice none 0 0, .slice none 0 0] 27)
  rw [← hW]
  clear hW sW
  have KX := Lib.hid kW
  have cQ := cell_of_block qW
  clear kW
  go_wp2_with fail
  refine (l1None_c c n 1 x y W).mono ?_
  rintro e w1 ⟨rfl, k1⟩
  rw [hnone]
  replace aW := carryN k1 aW
  replace bW := carryN k1 bW
  replace qW := carryN k1 qW
  replace KX := Lib.hid (below_next KX.out k1)
  clear k1 cQ
  obtain ⟨i, hi, hi4⟩ : ∃ i : Nat, c - 1 = (i : Int) ∧ i < 4 := ⟨(c - 1).toNat, by omega, by omega⟩
  have hci : (c - 1).toNat = i := by omega
  have hw1 : IntKind.i64.wrap (c - 1) = c - 1 := IntWalk.i64_in _ ⟨by omega, by omega⟩
  have hi0 : (0 : Int) ≤ (i : Int) := by omega
  have hi1 : (i : Int) < 4 := by omega
  obtain ⟨f0, hf0, -, hf0l, ef, -, hrf0⟩ := (O.out.below KX.out).l.intAt (i := i) (by simp only; rw [HN2.out]; exact hi4)
  simp only at ef
  have hiz : i < la.length := by rw [HN2.out]; exact hi4
  rw [hci, List.getD_eq_getElem?_getD, List.getElem?_eq_getElem hiz, Option.getD_some] at hold
  have HCI := Lib.hid hci
  subst hf0
  generalize hlv : la[i] = v at *
  have e1 := cell_regrown ef
  have ga := cellRe aW
  have gq := cellRe qW
  have hd : decide (n ≤ v) = false := by simp; omega
  clear hci ef hlv
  have cQ := cell_of_block qW
  go_wp2_with fail
  refine wp_region_quiet_below (by kernel_rfl) (by kernel_rfl) ?_
  repeat (go_big_quiet_step (fail))
  refine wpQuiet_nil ?_
  intro _ hw'
  obtain ⟨⟨dq, osq⟩, hw''⟩ := hw'
  subst hw''
  have hkb := below_regrown w1 dq osq
  replace aW := carryN hkb aW
  replace bW := carryN hkb bW
  replace qW := carryN hkb qW
  replace KX := Lib.hid (below_next KX.out hkb)
  clear hkb e1 ga gq cQ
  generalize Sort.grow (redrawn w1 dq) osq = X at *
  have cA := cell_of_block aW
  have lA := lt_of_block aW
  have lB := lt_of_block bW
  have lQ := lt_of_block qW
  have hXs : w.heap.size ≤ X.heap.size := by omega
  have HLR := Lib.hid ((O.out.below KX.out).l.rows int_len)
  go_upto_region 6 with (at_builtin; refine wpList_append_new (X.heap.size + 1) rfl (.tmp 21) (.tmp 23) rfl eltInt rfl rfl (HLR.out.below (by repeat' (first | with_reducible exact Below.refl _ _ | with_reducible assumption | with_reducible refine Below.alloc ?_ ?_ _ | with_reducible refine Below.drew ?_ | with_reducible refine Below.setCell ?_ ?_ _ | omega | (simp; omega) | (simp; done)))) HN2.out (by simp only [maxLen]; omega) (by omega) (by simp <;> omega) ?_; intro x1 d1 w2 q1; have k1 := ((Below.refl X.heap.size X).alloc (Nat.le_refl _) (.cells #[] 3)).trans (q1.below.mono (by simp <;> omega)); have cA := cell_of_block (carryN k1 aW); have fA := unfrozen_of_block (carryN k1 aW))
  obtain ⟨Y, hY⟩ : ∃ Y, Y = w2.setCell ⟨w.heap.size, 2, none⟩ (.slice x1 4 d1) := ⟨_, rfl⟩
  have R1 := Lib.hid (show Row (w2.setCell ⟨w.heap.size, 2, none⟩ (.slice x1 4 d1)) X.heap.size 3 x1 d1 1 intR la from (q1.row.low (Nat.le_succ _)).setType (carryN k1 aW) (by decide) 2 (.slice x1 4 d1))
  have aY := block_setCell (i := 2) (carryN k1 aW) (.slice x1 4 d1)
  have bY := (Below.heap_setCell w2 ⟨w.heap.size, 2, none⟩ (.slice x1 4 d1) _ (by simp)).trans (carryN k1 bW)
  have qY := (Below.heap_setCell w2 ⟨w.heap.size, 2, none⟩ (.slice x1 4 d1) _ (by simp)).trans (carryN k1 qW)
  have KY := Lib.hid (Below.setCell (below_next KX.out k1) (p := ⟨w.heap.size, 2, none⟩) (Nat.le_refl _) (.slice x1 4 d1))
  rw [← hY] at R1 aY bY qY KY ⊢
  simp only [List.setIfInBounds_toArray, List.set] at aY
  clear hY q1 k1 cA fA aW bW qW KX HLR lA lQ
  obtain ⟨f, hf, hfB, hfl, ef, ff, hrf⟩ := R1.out.intAt (i := i) hiz
  subst hf
  have R2 := Lib.hid (R1.out.setInt (i := i) hiz n)
  have cA := cell_of_block aY
  have cQ := cell_of_block qY
  have lA := lt_of_block aY
  have lQ := lt_of_block qY
  have hfw : w.heap.size + 2 < f := by omega
  have ne_ : ¬ (w.heap.size = f) := by omega
  have ne_ : ¬ (f = w.heap.size) := by omega
  have ne_ : ¬ (w.heap.size + 1 = f) := by omega
  have ne_ : ¬ (f = w.heap.size + 1) := by omega
  go_upto_region 7 with fail
  obtain ⟨Z, hZ⟩ : ∃ Z, Z = Y.setCell ⟨f, i, none⟩ (.int .i64 n) := ⟨_, rfl⟩
  have aZ := (Below.heap_setCell Y ⟨f, i, none⟩ (.int .i64 n) w.heap.size (by simp; omega)).trans aY
  have bZ := (Below.heap_setCell Y ⟨f, i, none⟩ (.int .i64 n) (w.heap.size + 2) (by simp; omega)).trans bY
  have qZ := (Below.heap_setCell Y ⟨f, i, none⟩ (.int .i64 n) (w.heap.size + 1) (by simp; omega)).trans qY
  have KZ := Lib.hid (Below.setCell KY.out (p := ⟨f, i, none⟩) (show w.heap.size ≤ f by omega) (.int .i64 n))
  rw [← hZ] at R2 aZ bZ qZ KZ ⊢
  clear hZ aY bY qY cA cQ lA lQ lB R1 KY ef ff
  obtain ⟨ls, hls⟩ : ∃ ls, ls = la.set i n := ⟨_, rfl⟩
  have HLS := Lib.hid (show la.set (c - 1).toNat n = ls by rw [HCI.out, hls])
  have HL4 := Lib.hid (show ls.length = 4 by rw [hls, List.length_set]; exact HN2.out)
  rw [← hls] at R2
  clear hls
  have OZ := Lib.hid (O.out.newL KZ.out R2.out (by omega) hB)
  have cA := cell_of_block aZ
  have cQ := cell_of_block qZ
  go_wp2_with fail
  refine (l2At_c es c a0 a1 (some ⟨f, 0, none⟩) n0 16 4 c0 c1 d1 Z (OZ.out.e.slG five_len HN0.out)).mono ?_
  rintro e w3 ⟨rfl, k3⟩
  rw [figI_opt, hfig]
  have aW := carryN k3 aZ
  have bW := carryN k3 bZ
  have qW := carryN k3 qZ
  have KX := Lib.hid (below_next KZ.out k3)
  have OW := Lib.hid (OZ.out.below k3)
  clear k3 aZ bZ qZ KZ OZ R2 cA cQ
  have ho : optI (some k) = (k : Int) := rfl
  rw [ho]
  clear ho
  have hkk : (0 : Int) ≤ (k : Int) := by omega
  have hkd : decide ((0 : Int) ≤ (k : Int)) = true := by simp
  have hkn : ¬ (k : Int) < 0 := by omega
  have cA := cell_of_block aW
  have cQ := cell_of_block qW
  have cB := cell_of_block bW
  have fB := unfrozen_of_block bW
  have lA := lt_of_block aW
  have lB := lt_of_block bW
  have lQ := lt_of_block qW
  go_wp2_with fail
  refine bodyPost_ret (v := .tuple #[.agg #[.slice a0 n0 c0, .slice a1 16 c1, .slice (some ⟨f, 0, none⟩) 4 d1], .int .i64 4]) (by simp [results, Tryz.results51, go_sem, cB]) rfl ?_
  have KX' := KX.out
  rw [HLS.out]
  exact ⟨_, rfl, (OW.out.set3 bW _ _ _).gmV HN0.out HN1.out HL4.out, (by repeat' (first | with_reducible exact Below.refl _ _ | with_reducible assumption | with_reducible refine Below.alloc ?_ ?_ _ | with_reducible refine Below.drew ?_ | with_reducible refine Below.setCell ?_ ?_ _ | omega | (simp; omega) | (simp; done)))⟩
set_option maxRecDepth 100000 in
set_option maxHeartbeats 8000000 in
theorem l2Do_off {B : Nat} {X : Nat → Prop} (es : List Rq) (fl la : List Int) (n0 : Nat) (a0 a1 a2 : Option Addr) (c0 c1 c2 : Nat) (c n o x y : Int) (w : World) (h : OwnX X w B a0 c0 a1 c1 a2 c2 ⟨es, fl, la⟩) (hn0 : es.length = n0) (hn1 : fl.length = 16) (hn2 : la.length = 4) (h4 : n0 ≤ 4) (hB : B ≤ w.heap.size) (hc : 1 ≤ c ∧ c ≤ 4) (hn : 1 ≤ n ∧ n ≤ 30) (hnone : noneB c n o x y = false) (hold : ¬ n ≤ la.getD (c - 1).toNat 0) (hfig : figAt es c = none) (ho1 : ¬ o = 1) :
    Calls Tryz.prog 51 #[.agg #[.slice a0 n0 c0, .slice a1 16 c1, .slice a2 4 c2], .agg #[.int .i64 c, .int .i64 n, .int .i64 o, .int .i64 x, .int .i64 y]] w (RetX X B ⟨es, fl, la.set (c - 1).toNat n⟩ 5 w) := by
  have hob : (o == 1) = false := by simpa using ho1
  have O := Lib.hid h
  have HN0 := Lib.hid hn0
  have HN1 := Lib.hid hn1
  have HN2 := Lib.hid hn2
  have hle2 : 4 ≤ c2 := by have := h.l.len; simp only at this; omega
  clear h hn0 hn1 hn2
  go_enter Tryz.func51, Tryz.ntmps51
  go_upto_region 1 with fail
  obtain ⟨W, hW, sW, aW, qW, bW, kW⟩ := blocks3 w (.cells #[.slice a0 n0 c0, .slice a1 16 c1, .slice a2 4 c2] 27) (.cells #[.int .i64 c, .int .i64 n, .int .i64 o, .int .i64 x, .int .i64 y] 79) (.cells #[.slice none 0 0, .slice none 0 0, .slice none 0 0] 27)
  rw [← hW]
  clear hW sW
  have KX := Lib.hid kW
  have cQ := cell_of_block qW
  clear kW
  go_wp2_with fail
  refine (l1None_c c n o x y W).mono ?_
  rintro e w1 ⟨rfl, k1⟩
  rw [hnone]
  replace aW := carryN k1 aW
  replace bW := carryN k1 bW
  replace qW := carryN k1 qW
  replace KX := Lib.hid (below_next KX.out k1)
  clear k1 cQ
  obtain ⟨i, hi, hi4⟩ : ∃ i : Nat, c - 1 = (i : Int) ∧ i < 4 := ⟨(c - 1).toNat, by omega, by omega⟩
  have hci : (c - 1).toNat = i := by omega
  have hw1 : IntKind.i64.wrap (c - 1) = c - 1 := IntWalk.i64_in _ ⟨by omega, by omega⟩
  have hi0 : (0 : Int) ≤ (i : Int) := by omega
  have hi1 : (i : Int) < 4 := by omega
  obtain ⟨f0, hf0, -, hf0l, ef, -, hrf0⟩ := (O.out.below KX.out).l.intAt (i := i) (by simp only; rw [HN2.out]; exact hi4)
  simp only at ef
  have hiz : i < la.length := by rw [HN2.out]; exact hi4
  rw [hci, List.getD_eq_getElem?_getD, List.getElem?_eq_getElem hiz, Option.getD_some] at hold
  have HCI := Lib.hid hci
  subst hf0
  generalize hlv : la[i] = v at *
  have e1 := cell_regrown ef
  have ga := cellRe aW
  have gq := cellRe qW
  have hd : decide (n ≤ v) = false := by simp; omega
  clear hci ef hlv
  have cQ := cell_of_block qW
  go_wp2_with fail
  refine wp_region_quiet_below (by kernel_rfl) (by kernel_rfl) ?_
  repeat (go_big_quiet_step (fail))
  refine wpQuiet_nil ?_
  intro _ hw'
  obtain ⟨⟨dq, osq⟩, hw''⟩ := hw'
  subst hw''
  have hkb := below_regrown w1 dq osq
  replace aW := carryN hkb aW
  replace bW := carryN hkb bW
  replace qW := carryN hkb qW
  replace KX := Lib.hid (below_next KX.out hkb)
  clear hkb e1 ga gq cQ
  generalize Sort.grow (redrawn w1 dq) osq = X at *
  have cA := cell_of_block aW
  have lA := lt_of_block aW
  have lB := lt_of_block bW
  have lQ := lt_of_block qW
  have hXs : w.heap.size ≤ X.heap.size := by omega
  have HLR := Lib.hid ((O.out.below KX.out).l.rows int_len)
  go_upto_region 6 with (at_builtin; refine wpList_append_new (X.heap.size + 1) rfl (.tmp 21) (.tmp 23) rfl eltInt rfl rfl (HLR.out.below (by repeat' (first | with_reducible exact Below.refl _ _ | with_reducible assumption | with_reducible refine Below.alloc ?_ ?_ _ | with_reducible refine Below.drew ?_ | with_reducible refine Below.setCell ?_ ?_ _ | omega | (simp; omega) | (simp; done)))) HN2.out (by simp only [maxLen]; omega) (by omega) (by simp <;> omega) ?_; intro x1 d1 w2 q1; have k1 := ((Below.refl X.heap.size X).alloc (Nat.le_refl _) (.cells #[] 3)).trans (q1.below.mono (by simp <;> omega)); have cA := cell_of_block (carryN k1 aW); have fA := unfrozen_of_block (carryN k1 aW))
  obtain ⟨Y, hY⟩ : ∃ Y, Y = w2.setCell ⟨w.heap.size, 2, none⟩ (.slice x1 4 d1) := ⟨_, rfl⟩
  have R1 := Lib.hid (show Row (w2.setCell ⟨w.heap.size, 2, none⟩ (.slice x1 4 d1)) X.heap.size 3 x1 d1 1 intR la from (q1.row.low (Nat.le_succ _)).setType (carryN k1 aW) (by decide) 2 (.slice x1 4 d1))
  have aY := block_setCell (i := 2) (carryN k1 aW) (.slice x1 4 d1)
  have bY := (Below.heap_setCell w2 ⟨w.heap.size, 2, none⟩ (.slice x1 4 d1) _ (by simp)).trans (carryN k1 bW)
  have qY := (Below.heap_setCell w2 ⟨w.heap.size, 2, none⟩ (.slice x1 4 d1) _ (by simp)).trans (carryN k1 qW)
  have KY := Lib.hid (Below.setCell (below_next KX.out k1) (p := ⟨w.heap.size, 2, none⟩) (Nat.le_refl _) (.slice x1 4 d1))
  rw [← hY] at R1 aY bY qY KY ⊢
  simp only [List.setIfInBounds_toArray, List.set] at aY
  clear hY q1 k1 cA fA aW bW qW KX HLR lA lQ
  obtain ⟨f, hf, hfB, hfl, ef, ff, hrf⟩ := R1.out.intAt (i := i) hiz
  subst hf
  have R2 := Lib.hid (R1.out.setInt (i := i) hiz n)
  have cA := cell_of_block aY
  have cQ := cell_of_block qY
  have lA := lt_of_block aY
  have lQ := lt_of_block qY
  have hfw : w.heap.size + 2 < f := by omega
  have ne_ : ¬ (w.heap.size = f) := by omega
  have ne_ : ¬ (f = w.heap.size) := by omega
  have ne_ : ¬ (w.heap.size + 1 = f) := by omega
  have ne_ : ¬ (f = w.heap.size + 1) := by omega
  go_upto_region 7 with fail
  obtain ⟨Z, hZ⟩ : ∃ Z, Z = Y.setCell ⟨f, i, none⟩ (.int .i64 n) := ⟨_, rfl⟩
  have aZ := (Below.heap_setCell Y ⟨f, i, none⟩ (.int .i64 n) w.heap.size (by simp; omega)).trans aY
  have bZ := (Below.heap_setCell Y ⟨f, i, none⟩ (.int .i64 n) (w.heap.size + 2) (by simp; omega)).trans bY
  have qZ := (Below.heap_setCell Y ⟨f, i, none⟩ (.int .i64 n) (w.heap.size + 1) (by simp; omega)).trans qY
  have KZ := Lib.hid (Below.setCell KY.out (p := ⟨f, i, none⟩) (show w.heap.size ≤ f by omega) (.int .i64 n))
  rw [← hZ] at R2 aZ bZ qZ KZ ⊢
  clear hZ aY bY qY cA cQ lA lQ lB R1 KY ef ff
  obtain ⟨ls, hls⟩ : ∃ ls, ls = la.set i n := ⟨_, rfl⟩
  have HLS := Lib.hid (show la.set (c - 1).toNat n = ls by rw [HCI.out, hls])
  have HL4 := Lib.hid (show ls.length = 4 by rw [hls, List.length_set]; exact HN2.out)
  rw [← hls] at R2
  clear hls
  have OZ := Lib.hid (O.out.newL KZ.out R2.out (by omega) hB)
  have cA := cell_of_block aZ
  have cQ := cell_of_block qZ
  go_wp2_with fail
  refine (l2At_c es c a0 a1 (some ⟨f, 0, none⟩) n0 16 4 c0 c1 d1 Z (OZ.out.e.slG five_len HN0.out)).mono ?_
  rintro e w3 ⟨rfl, k3⟩
  rw [figI_opt, hfig]
  have aW := carryN k3 aZ
  have bW := carryN k3 bZ
  have qW := carryN k3 qZ
  have KX := Lib.hid (below_next KZ.out k3)
  have OW := Lib.hid (OZ.out.below k3)
  clear k3 aZ bZ qZ KZ OZ R2 cA cQ
  have ho : optI none = -1 := rfl
  rw [ho]
  clear ho
  have cA := cell_of_block aW
  have cQ := cell_of_block qW
  have cB := cell_of_block bW
  have fB := unfrozen_of_block bW
  have lA := lt_of_block aW
  have lB := lt_of_block bW
  have lQ := lt_of_block qW
  go_wp2_with fail
  refine bodyPost_ret (v := .tuple #[.agg #[.slice a0 n0 c0, .slice a1 16 c1, .slice (some ⟨f, 0, none⟩) 4 d1], .int .i64 5]) (by simp [results, Tryz.results51, go_sem, cB]) rfl ?_
  have KX' := KX.out
  rw [HLS.out]
  exact ⟨_, rfl, (OW.out.set3 bW _ _ _).gmV HN0.out HN1.out HL4.out, (by repeat' (first | with_reducible exact Below.refl _ _ | with_reducible assumption | with_reducible refine Below.alloc ?_ ?_ _ | with_reducible refine Below.drew ?_ | with_reducible refine Below.setCell ?_ ?_ _ | omega | (simp; omega) | (simp; done)))⟩
set_option maxRecDepth 100000 in
set_option maxHeartbeats 8000000 in
theorem l2Do_join {B : Nat} {X : Nat → Prop} (es : List Rq) (fl la : List Int) (n0 : Nat) (a0 a1 a2 : Option Addr) (c0 c1 c2 : Nat) (c n o x y : Int) (w : World) (h : OwnX X w B a0 c0 a1 c1 a2 c2 ⟨es, fl, la⟩) (hn0 : es.length = n0) (hn1 : fl.length = 16) (hn2 : la.length = 4) (h4 : n0 ≤ 4) (hB : B ≤ w.heap.size) (hc : 1 ≤ c ∧ c ≤ 4) (hn : 1 ≤ n ∧ n ≤ 30) (hnone : noneB c n o x y = false) (hold : ¬ n ≤ la.getD (c - 1).toNat 0) (hfig : figAt es c = none) (ho1 : o = 1) :
    Calls Tryz.prog 51 #[.agg #[.slice a0 n0 c0, .slice a1 16 c1, .slice a2 4 c2], .agg #[.int .i64 c, .int .i64 n, .int .i64 o, .int .i64 x, .int .i64 y]] w (RetX X B ⟨joinE es c, fl, la.set (c - 1).toNat n⟩ 0 w) := by
  subst ho1
  have O := Lib.hid h
  have HN0 := Lib.hid hn0
  have HN1 := Lib.hid hn1
  have HN2 := Lib.hid hn2
  have hle2 : 4 ≤ c2 := by have := h.l.len; simp only at this; omega
  clear h hn0 hn1 hn2
  go_enter Tryz.func51, Tryz.ntmps51
  go_upto_region 1 with fail
  obtain ⟨W, hW, sW, aW, qW, bW, kW⟩ := blocks3 w (.cells #[.slice a0 n0 c0, .slice a1 16 c1, .slice a2 4 c2] 27) (.cells #[.int .i64 c, .int .i64 n, .int .i64 1, .int .i64 x, .int .i64 y] 79) (.cells #[.slice none 0 0, .slice none 0 0, .slice none 0 0] 27)
  rw [← hW]
  clear hW sW
  have KX := Lib.hid kW
  have cQ := cell_of_block qW
  clear kW
  go_wp2_with fail
  refine (l1None_c c n 1 x y W).mono ?_
  rintro e w1 ⟨rfl, k1⟩
  rw [hnone]
  replace aW := carryN k1 aW
  replace bW := carryN k1 bW
  replace qW := carryN k1 qW
  replace KX := Lib.hid (below_next KX.out k1)
  clear k1 cQ
  obtain ⟨i, hi, hi4⟩ : ∃ i : Nat, c - 1 = (i : Int) ∧ i < 4 := ⟨(c - 1).toNat, by omega, by omega⟩
  have hci : (c - 1).toNat = i := by omega
  have hw1 : IntKind.i64.wrap (c - 1) = c - 1 := IntWalk.i64_in _ ⟨by omega, by omega⟩
  have hi0 : (0 : Int) ≤ (i : Int) := by omega
  have hi1 : (i : Int) < 4 := by omega
  obtain ⟨f0, hf0, -, hf0l, ef, -, hrf0⟩ := (O.out.below KX.out).l.intAt (i := i) (by simp only; rw [HN2.out]; exact hi4)
  simp only at ef
  have hiz : i < la.length := by rw [HN2.out]; exact hi4
  rw [hci, List.getD_eq_getElem?_getD, List.getElem?_eq_getElem hiz, Option.getD_some] at hold
  have HCI := Lib.hid hci
  subst hf0
  generalize hlv : la[i] = v at *
  have e1 := cell_regrown ef
  have ga := cellRe aW
  have gq := cellRe qW
  have hd : decide (n ≤ v) = false := by simp; omega
  clear hci ef hlv
  have cQ := cell_of_block qW
  go_wp2_with fail
  refine wp_region_quiet_below (by kernel_rfl) (by kernel_rfl) ?_
  repeat (go_big_quiet_step (fail))
  refine wpQuiet_nil ?_
  intro _ hw'
  obtain ⟨⟨dq, osq⟩, hw''⟩ := hw'
  subst hw''
  have hkb := below_regrown w1 dq osq
  replace aW := carryN hkb aW
  replace bW := carryN hkb bW
  replace qW := carryN hkb qW
  replace KX := Lib.hid (below_next KX.out hkb)
  clear hkb e1 ga gq cQ
  generalize Sort.grow (redrawn w1 dq) osq = X at *
  have cA := cell_of_block aW
  have lA := lt_of_block aW
  have lB := lt_of_block bW
  have lQ := lt_of_block qW
  have hXs : w.heap.size ≤ X.heap.size := by omega
  have HLR := Lib.hid ((O.out.below KX.out).l.rows int_len)
  go_upto_region 6 with (at_builtin; refine wpList_append_new (X.heap.size + 1) rfl (.tmp 21) (.tmp 23) rfl eltInt rfl rfl (HLR.out.below (by repeat' (first | with_reducible exact Below.refl _ _ | with_reducible assumption | with_reducible refine Below.alloc ?_ ?_ _ | with_reducible refine Below.drew ?_ | with_reducible refine Below.setCell ?_ ?_ _ | omega | (simp; omega) | (simp; done)))) HN2.out (by simp only [maxLen]; omega) (by omega) (by simp <;> omega) ?_; intro x1 d1 w2 q1; have k1 := ((Below.refl X.heap.size X).alloc (Nat.le_refl _) (.cells #[] 3)).trans (q1.below.mono (by simp <;> omega)); have cA := cell_of_block (carryN k1 aW); have fA := unfrozen_of_block (carryN k1 aW))
  obtain ⟨Y, hY⟩ : ∃ Y, Y = w2.setCell ⟨w.heap.size, 2, none⟩ (.slice x1 4 d1) := ⟨_, rfl⟩
  have R1 := Lib.hid (show Row (w2.setCell ⟨w.heap.size, 2, none⟩ (.slice x1 4 d1)) X.heap.size 3 x1 d1 1 intR la from (q1.row.low (Nat.le_succ _)).setType (carryN k1 aW) (by decide) 2 (.slice x1 4 d1))
  have aY := block_setCell (i := 2) (carryN k1 aW) (.slice x1 4 d1)
  have bY := (Below.heap_setCell w2 ⟨w.heap.size, 2, none⟩ (.slice x1 4 d1) _ (by simp)).trans (carryN k1 bW)
  have qY := (Below.heap_setCell w2 ⟨w.heap.size, 2, none⟩ (.slice x1 4 d1) _ (by simp)).trans (carryN k1 qW)
  have KY := Lib.hid (Below.setCell (below_next KX.out k1) (p := ⟨w.heap.size, 2, none⟩) (Nat.le_refl _) (.slice x1 4 d1))
  rw [← hY] at R1 aY bY qY KY ⊢
  simp only [List.setIfInBounds_toArray, List.set] at aY
  clear hY q1 k1 cA fA aW bW qW KX HLR lA lQ
  obtain ⟨f, hf, hfB, hfl, ef, ff, hrf⟩ := R1.out.intAt (i := i) hiz
  subst hf
  have R2 := Lib.hid (R1.out.setInt (i := i) hiz n)
  have cA := cell_of_block aY
  have cQ := cell_of_block qY
  have lA := lt_of_block aY
  have lQ := lt_of_block qY
  have hfw : w.heap.size + 2 < f := by omega
  have ne_ : ¬ (w.heap.size = f) := by omega
  have ne_ : ¬ (f = w.heap.size) := by omega
  have ne_ : ¬ (w.heap.size + 1 = f) := by omega
  have ne_ : ¬ (f = w.heap.size + 1) := by omega
  go_upto_region 7 with fail
  obtain ⟨Z, hZ⟩ : ∃ Z, Z = Y.setCell ⟨f, i, none⟩ (.int .i64 n) := ⟨_, rfl⟩
  have aZ := (Below.heap_setCell Y ⟨f, i, none⟩ (.int .i64 n) w.heap.size (by simp; omega)).trans aY
  have bZ := (Below.heap_setCell Y ⟨f, i, none⟩ (.int .i64 n) (w.heap.size + 2) (by simp; omega)).trans bY
  have qZ := (Below.heap_setCell Y ⟨f, i, none⟩ (.int .i64 n) (w.heap.size + 1) (by simp; omega)).trans qY
  have KZ := Lib.hid (Below.setCell KY.out (p := ⟨f, i, none⟩) (show w.heap.size ≤ f by omega) (.int .i64 n))
  rw [← hZ] at R2 aZ bZ qZ KZ ⊢
  clear hZ aY bY qY cA cQ lA lQ lB R1 KY ef ff
  obtain ⟨ls, hls⟩ : ∃ ls, ls = la.set i n := ⟨_, rfl⟩
  have HLS := Lib.hid (show la.set (c - 1).toNat n = ls by rw [HCI.out, hls])
  have HL4 := Lib.hid (show ls.length = 4 by rw [hls, List.length_set]; exact HN2.out)
  rw [← hls] at R2
  clear hls
  have OZ := Lib.hid (O.out.newL KZ.out R2.out (by omega) hB)
  have cA := cell_of_block aZ
  have cQ := cell_of_block qZ
  go_wp2_with fail
  refine (l2At_c es c a0 a1 (some ⟨f, 0, none⟩) n0 16 4 c0 c1 d1 Z (OZ.out.e.slG five_len HN0.out)).mono ?_
  rintro e w3 ⟨rfl, k3⟩
  rw [figI_opt, hfig]
  have aW := carryN k3 aZ
  have bW := carryN k3 bZ
  have qW := carryN k3 qZ
  have KX := Lib.hid (below_next KZ.out k3)
  have OW := Lib.hid (OZ.out.below k3)
  clear k3 aZ bZ qZ KZ OZ R2 cA cQ
  have ho : optI none = -1 := rfl
  rw [ho]
  clear ho
  have cA := cell_of_block aW
  have cQ := cell_of_block qW
  have cB := cell_of_block bW
  have fB := unfrozen_of_block bW
  have lA := lt_of_block aW
  have lB := lt_of_block bW
  have lQ := lt_of_block qW
  go_wp2_with fail
  refine (l2Join_c es fl ls c n0 4 c0 a0 a1 (some ⟨f, 0, none⟩) c1 d1 w3 OW.out HN0.out h4 (Nat.le_trans hB KX.out.size) hc).mono ?_
  rintro e w4 ⟨b0, d0, rfl, o4, k4⟩
  have bV := carryN k4 bW
  have KV := Lib.hid (below_next KX.out k4)
  have OF := Lib.hid (o4.set3 bV (.slice b0 (n0 + 1) d0) (.slice a1 16 c1) (.slice (some ⟨f, 0, none⟩) 4 d1))
  have KF := Lib.hid (below_set3 KV.out (show w.heap.size ≤ w.heap.size + 2 by omega) (.slice b0 (n0 + 1) d0) (.slice a1 16 c1) (.slice (some ⟨f, 0, none⟩) 4 d1))
  have HJL := Lib.hid (show (joinE es c).length = n0 + 1 by
    have happ : es.takeWhile (fun e => decide (e.c < c)) ++ es.dropWhile (fun e => decide (e.c < c)) = es := List.takeWhile_append_dropWhile
    have := congrArg List.length happ
    unfold joinE
    simp only [List.length_append, List.length_cons] at this ⊢
    have := HN0.out
    omega)
  clear o4 k4 aW bW qW cA cQ cB fB lA lB lQ KX OW
  have cB := cell_of_block bV
  have fB := unfrozen_of_block bV
  have lB := lt_of_block bV
  go_wp2_with fail
  refine bodyPost_ret (v := .tuple #[.agg #[.slice b0 (n0 + 1) d0, .slice a1 16 c1, .slice (some ⟨f, 0, none⟩) 4 d1], .int .i64 0]) (by simp [results, Tryz.results51, go_sem, cB]) rfl ?_
  rw [HLS.out]
  exact ⟨_, rfl, OF.out.gmV HJL.out HN1.out HL4.out, KF.out⟩
set_option maxRecDepth 100000 in
set_option maxHeartbeats 8000000 in
theorem l2Do_act {B : Nat} {X : Nat → Prop} (es : List Rq) (fl la : List Int) (n0 : Nat) (a0 a1 a2 : Option Addr) (c0 c1 c2 : Nat) (c n o x y : Int) (w : World) (h : OwnX X w B a0 c0 a1 c1 a2 c2 ⟨es, fl, la⟩) (hn0 : es.length = n0) (hn1 : fl.length = 16) (hn2 : la.length = 4) (h4 : n0 ≤ 4) (hB : B ≤ w.heap.size) (hc : 1 ≤ c ∧ c ≤ 4) (hn : 1 ≤ n ∧ n ≤ 30) (hnone : noneB c n o x y = false) (hold : ¬ n ≤ la.getD (c - 1).toNat 0) (k : Nat) (hfig : figAt es c = some k) (ho1 : o ≠ 1) (hp : Places es) (hf : ∀ n ∈ fl, 0 ≤ n ∧ n ≤ 20) (hr : okB c n o x y = true) :
    Calls Tryz.prog 51 #[.agg #[.slice a0 n0 c0, .slice a1 16 c1, .slice a2 4 c2], .agg #[.int .i64 c, .int .i64 n, .int .i64 o, .int .i64 x, .int .i64 y]] w (RetX X B (actG ⟨es, fl, la.set (c - 1).toNat n⟩ k ⟨c, n, o, x, y⟩).1 (actG ⟨es, fl, la.set (c - 1).toNat n⟩ k ⟨c, n, o, x, y⟩).2 w) := by
  have hob : (o == 1) = false := by simpa using ho1
  have HP := Lib.hid hp
  have HF := Lib.hid hf
  have HR := Lib.hid hr
  have HO1 := Lib.hid ho1
  clear hp hf hr
  have O := Lib.hid h
  have HN0 := Lib.hid hn0
  have HN1 := Lib.hid hn1
  have HN2 := Lib.hid hn2
  have hle2 : 4 ≤ c2 := by have := h.l.len; simp only at this; omega
  clear h hn0 hn1 hn2
  go_enter Tryz.func51, Tryz.ntmps51
  go_upto_region 1 with fail
  obtain ⟨W, hW, sW, aW, qW, bW, kW⟩ := blocks3 w (.cells #[.slice a0 n0 c0, .slice a1 16 c1, .slice a2 4 c2] 27) (.cells #[.int .i64 c, .int .i64 n, .int .i64 o, .int .i64 x, .int .i64 y] 79) (.cells #[.slice none 0 0, .slice none 0 0, .slice none 0 0] 27)
  rw [← hW]
  clear hW sW
  have KX := Lib.hid kW
  have cQ := cell_of_block qW
  clear kW
  go_wp2_with fail
  refine (l1None_c c n o x y W).mono ?_
  rintro e w1 ⟨rfl, k1⟩
  rw [hnone]
  replace aW := carryN k1 aW
  replace bW := carryN k1 bW
  replace qW := carryN k1 qW
  replace KX := Lib.hid (below_next KX.out k1)
  clear k1 cQ
  obtain ⟨i, hi, hi4⟩ : ∃ i : Nat, c - 1 = (i : Int) ∧ i < 4 := ⟨(c - 1).toNat, by omega, by omega⟩
  have hci : (c - 1).toNat = i := by omega
  have hw1 : IntKind.i64.wrap (c - 1) = c - 1 := IntWalk.i64_in _ ⟨by omega, by omega⟩
  have hi0 : (0 : Int) ≤ (i : Int) := by omega
  have hi1 : (i : Int) < 4 := by omega
  obtain ⟨f0, hf0, -, hf0l, ef, -, hrf0⟩ := (O.out.below KX.out).l.intAt (i := i) (by simp only; rw [HN2.out]; exact hi4)
  simp only at ef
  have hiz : i < la.length := by rw [HN2.out]; exact hi4
  rw [hci, List.getD_eq_getElem?_getD, List.getElem?_eq_getElem hiz, Option.getD_some] at hold
  have HCI := Lib.hid hci
  subst hf0
  generalize hlv : la[i] = v at *
  have e1 := cell_regrown ef
  have ga := cellRe aW
  have gq := cellRe qW
  have hd : decide (n ≤ v) = false := by simp; omega
  clear hci ef hlv
  have cQ := cell_of_block qW
  go_wp2_with fail
  refine wp_region_quiet_below (by kernel_rfl) (by kernel_rfl) ?_
  repeat (go_big_quiet_step (fail))
  refine wpQuiet_nil ?_
  intro _ hw'
  obtain ⟨⟨dq, osq⟩, hw''⟩ := hw'
  subst hw''
  have hkb := below_regrown w1 dq osq
  replace aW := carryN hkb aW
  replace bW := carryN hkb bW
  replace qW := carryN hkb qW
  replace KX := Lib.hid (below_next KX.out hkb)
  clear hkb e1 ga gq cQ
  generalize Sort.grow (redrawn w1 dq) osq = X at *
  have cA := cell_of_block aW
  have lA := lt_of_block aW
  have lB := lt_of_block bW
  have lQ := lt_of_block qW
  have hXs : w.heap.size ≤ X.heap.size := by omega
  have HLR := Lib.hid ((O.out.below KX.out).l.rows int_len)
  go_upto_region 6 with (at_builtin; refine wpList_append_new (X.heap.size + 1) rfl (.tmp 21) (.tmp 23) rfl eltInt rfl rfl (HLR.out.below (by repeat' (first | with_reducible exact Below.refl _ _ | with_reducible assumption | with_reducible refine Below.alloc ?_ ?_ _ | with_reducible refine Below.drew ?_ | with_reducible refine Below.setCell ?_ ?_ _ | omega | (simp; omega) | (simp; done)))) HN2.out (by simp only [maxLen]; omega) (by omega) (by simp <;> omega) ?_; intro x1 d1 w2 q1; have k1 := ((Below.refl X.heap.size X).alloc (Nat.le_refl _) (.cells #[] 3)).trans (q1.below.mono (by simp <;> omega)); have cA := cell_of_block (carryN k1 aW); have fA := unfrozen_of_block (carryN k1 aW))
  obtain ⟨Y, hY⟩ : ∃ Y, Y = w2.setCell ⟨w.heap.size, 2, none⟩ (.slice x1 4 d1) := ⟨_, rfl⟩
  have R1 := Lib.hid (show Row (w2.setCell ⟨w.heap.size, 2, none⟩ (.slice x1 4 d1)) X.heap.size 3 x1 d1 1 intR la from (q1.row.low (Nat.le_succ _)).setType (carryN k1 aW) (by decide) 2 (.slice x1 4 d1))
  have aY := block_setCell (i := 2) (carryN k1 aW) (.slice x1 4 d1)
  have bY := (Below.heap_setCell w2 ⟨w.heap.size, 2, none⟩ (.slice x1 4 d1) _ (by simp)).trans (carryN k1 bW)
  have qY := (Below.heap_setCell w2 ⟨w.heap.size, 2, none⟩ (.slice x1 4 d1) _ (by simp)).trans (carryN k1 qW)
  have KY := Lib.hid (Below.setCell (below_next KX.out k1) (p := ⟨w.heap.size, 2, none⟩) (Nat.le_refl _) (.slice x1 4 d1))
  rw [← hY] at R1 aY bY qY KY ⊢
  simp only [List.setIfInBounds_toArray, List.set] at aY
  clear hY q1 k1 cA fA aW bW qW KX HLR lA lQ
  obtain ⟨f, hf, hfB, hfl, ef, ff, hrf⟩ := R1.out.intAt (i := i) hiz
  subst hf
  have R2 := Lib.hid (R1.out.setInt (i := i) hiz n)
  have cA := cell_of_block aY
  have cQ := cell_of_block qY
  have lA := lt_of_block aY
  have lQ := lt_of_block qY
  have hfw : w.heap.size + 2 < f := by omega
  have ne_ : ¬ (w.heap.size = f) := by omega
  have ne_ : ¬ (f = w.heap.size) := by omega
  have ne_ : ¬ (w.heap.size + 1 = f) := by omega
  have ne_ : ¬ (f = w.heap.size + 1) := by omega
  go_upto_region 7 with fail
  obtain ⟨Z, hZ⟩ : ∃ Z, Z = Y.setCell ⟨f, i, none⟩ (.int .i64 n) := ⟨_, rfl⟩
  have aZ := (Below.heap_setCell Y ⟨f, i, none⟩ (.int .i64 n) w.heap.size (by simp; omega)).trans aY
  have bZ := (Below.heap_setCell Y ⟨f, i, none⟩ (.int .i64 n) (w.heap.size + 2) (by simp; omega)).trans bY
  have qZ := (Below.heap_setCell Y ⟨f, i, none⟩ (.int .i64 n) (w.heap.size + 1) (by simp; omega)).trans qY
  have KZ := Lib.hid (Below.setCell KY.out (p := ⟨f, i, none⟩) (show w.heap.size ≤ f by omega) (.int .i64 n))
  rw [← hZ] at R2 aZ bZ qZ KZ ⊢
  clear hZ aY bY qY cA cQ lA lQ lB R1 KY ef ff
  obtain ⟨ls, hls⟩ : ∃ ls, ls = la.set i n := ⟨_, rfl⟩
  have HLS := Lib.hid (show la.set (c - 1).toNat n = ls by rw [HCI.out, hls])
  have HL4 := Lib.hid (show ls.length = 4 by rw [hls, List.length_set]; exact HN2.out)
  rw [← hls] at R2
  clear hls
  have OZ := Lib.hid (O.out.newL KZ.out R2.out (by omega) hB)
  have cA := cell_of_block aZ
  have cQ := cell_of_block qZ
  go_wp2_with fail
  refine (l2At_c es c a0 a1 (some ⟨f, 0, none⟩) n0 16 4 c0 c1 d1 Z (OZ.out.e.slG five_len HN0.out)).mono ?_
  rintro e w3 ⟨rfl, k3⟩
  rw [figI_opt, hfig]
  have aW := carryN k3 aZ
  have bW := carryN k3 bZ
  have qW := carryN k3 qZ
  have KX := Lib.hid (below_next KZ.out k3)
  have OW := Lib.hid (OZ.out.below k3)
  clear k3 aZ bZ qZ KZ OZ R2 cA cQ
  have ho : optI (some k) = (k : Int) := rfl
  rw [ho]
  clear ho
  have hkk : (0 : Int) ≤ (k : Int) := by omega
  have hkd : decide ((0 : Int) ≤ (k : Int)) = true := by simp
  have hkn : ¬ (k : Int) < 0 := by omega
  have cA := cell_of_block aW
  have cQ := cell_of_block qW
  have cB := cell_of_block bW
  have fB := unfrozen_of_block bW
  have lA := lt_of_block aW
  have lB := lt_of_block bW
  have lQ := lt_of_block qW
  have hkn0 : k < n0 := by obtain ⟨hl, -⟩ := figAt_some hfig; rw [← HN0.out]; exact hl
  have CA := Lib.hid (fun (V : World) (kk : Below w3.heap.size w3 V) => l2Act_c (B := B) es fl ls k n0 4 a0 a1 (some ⟨f, 0, none⟩) c0 c1 d1 ⟨c, n, o, x, y⟩ V (OW.out.below kk) HN0.out HN1.out HL4.out hkn0 h4 (Nat.le_trans hB (Nat.le_trans KX.out.size kk.size)) HP.out HF.out HR.out HO1.out)
  go_wp2_with fail
  refine (CA.out w3 (Below.refl _ _)).mono ?_
  rintro e w4 ⟨v4, rfl, ov, k4⟩
  obtain ⟨p, hpp⟩ : ∃ p, p = actG ⟨es, fl, ls⟩ k ⟨c, n, o, x, y⟩ := ⟨_, rfl⟩
  have HPP := Lib.hid hpp
  rw [← hpp] at ov ⊢
  clear hpp
  obtain ⟨g4, cd⟩ := p
  simp only at ov ⊢
  obtain ⟨b0, d0, b1, e1, b2, e2, hv, o4⟩ := ov.rows
  obtain ⟨m0, hm0⟩ : ∃ m, m = g4.es.length := ⟨_, rfl⟩
  obtain ⟨m1, hm1⟩ : ∃ m, m = g4.fl.length := ⟨_, rfl⟩
  obtain ⟨m2, hm2⟩ : ∃ m, m = g4.la.length := ⟨_, rfl⟩
  rw [← hm0, ← hm1, ← hm2] at hv
  rw [hv]
  have HM0 := Lib.hid hm0
  have HM1 := Lib.hid hm1
  have HM2 := Lib.hid hm2
  have bV := carryN k4 bW
  have KV := Lib.hid (below_next KX.out k4)
  have OF := Lib.hid (o4.set3 bV (.slice b0 m0 d0) (.slice b1 m1 e1) (.slice b2 m2 e2))
  have KF := Lib.hid (below_set3 KV.out (show w.heap.size ≤ w.heap.size + 2 by omega) (.slice b0 m0 d0) (.slice b1 m1 e1) (.slice b2 m2 e2))
  clear hv ov hm0 hm1 hm2 o4 k4 aW bW qW cA cQ cB fB lA lB lQ KX OW CA
  have cB := cell_of_block bV
  have fB := unfrozen_of_block bV
  have lB := lt_of_block bV
  go_wp2_with fail
  refine bodyPost_ret (v := .tuple #[.agg #[.slice b0 m0 d0, .slice b1 m1 e1, .slice b2 m2 e2], .int .i64 cd]) (by simp [results, Tryz.results51, go_sem, cB]) rfl ?_
  rw [HLS.out, ← HPP.out]
  exact ⟨_, rfl, OF.out.gmV HM0.out.symm HM1.out.symm HM2.out.symm, KF.out⟩

/-- Of a game that is ok, and an ask that is, or none. -/
theorem l2Do_x {B : Nat} {X : Nat → Prop} (z : Gm) (r : Rq) (v : Value) (w : World) (h : OwnGX X w B v z) (hB : B ≤ w.heap.size) (hg : gameB z = true) (hr : good r = true) :
    Calls Tryz.prog 51 #[v, .agg #[.int .i64 r.c, .int .i64 r.n, .int .i64 r.o, .int .i64 r.x, .int .i64 r.y]] w (RetX X B (doG z r).1 (doG z r).2 w) := by
  obtain ⟨a0, c0, a1, c1, a2, c2, rfl, o3⟩ := h.rows
  have hg' := hg
  rw [gameB_iff] at hg'
  obtain ⟨h1, h2, h3, h4, h5, -⟩ := hg'
  have hle : z.es.length ≤ 4 := ents_le4 h1
  have hP := places_of h1.1
  obtain ⟨es, fl, la⟩ := z
  obtain ⟨c, n, o, x, y⟩ := r
  simp only at h1 h2 h3 h4 h5 hle hP o3 ⊢
  rw [h4, h5]
  unfold doG
  by_cases hz : (⟨c, n, o, x, y⟩ : Rq) = ⟨0, 0, 0, 0, 0⟩
  · rw [if_pos hz]
    refine l2Do_none es fl la es.length a0 a1 a2 c0 c1 c2 c n o x y w o3 rfl h4 h5 hle hB ?_
    injection hz with e1 e2 e3 e4 e5
    subst e1 e2 e3 e4 e5
    rfl
  · rw [if_neg hz]
    have hok := (good_or hr).resolve_right hz
    have hb := okB_xy hok
    simp only at hb hok
    have hnone : noneB c n o x y = false := eqR_ne (r := ⟨c, n, o, x, y⟩) (s := ⟨0, 0, 0, 0, 0⟩) hz
    have hc : 1 ≤ c ∧ c ≤ 4 := ⟨hb.1, hb.2.1⟩
    have hn : 1 ≤ n ∧ n ≤ 30 := ⟨hb.2.2.1, hb.2.2.2.1⟩
    by_cases hold : n ≤ la.getD (c - 1).toNat 0
    · rw [if_pos hold]
      exact l2Do_old es fl la es.length a0 a1 a2 c0 c1 c2 c n o x y w o3 rfl h4 h5 hle hB hc hn hnone hold
    · rw [if_neg hold]
      simp only
      cases hfig : figAt es c with
      | none =>
        simp only
        by_cases ho1 : o = 1
        · rw [if_pos ho1]
          exact l2Do_join es fl la es.length a0 a1 a2 c0 c1 c2 c n o x y w o3 rfl h4 h5 hle hB hc hn hnone hold hfig ho1
        · rw [if_neg ho1]
          exact l2Do_off es fl la es.length a0 a1 a2 c0 c1 c2 c n o x y w o3 rfl h4 h5 hle hB hc hn hnone hold hfig ho1
      | some k =>
        simp only
        by_cases ho1 : o = 1
        · rw [if_pos ho1]
          exact l2Do_there es fl la es.length a0 a1 a2 c0 c1 c2 c n o x y w o3 rfl h4 h5 hle hB hc hn hnone hold k hfig ho1
        · rw [if_neg ho1]
          exact l2Do_act es fl la es.length a0 a1 a2 c0 c1 c2 c n o x y w o3 rfl h4 h5 hle hB hc hn hnone hold k hfig ho1 hP h2 hok
theorem l2Do_c {B : Nat} (z : Gm) (r : Rq) (v : Value) (w : World) (h : OwnGm w B v z) (hB : B ≤ w.heap.size) (hg : gameB z = true) (hr : good r = true) :
    Calls Tryz.prog 51 #[v, .agg #[.int .i64 r.c, .int .i64 r.n, .int .i64 r.o, .int .i64 r.x, .int .i64 r.y]] w (RetG B (doG z r).1 (doG z r).2 w) :=
  (l2Do_x z r v w h.noX hB hg hr).mono fun e w' ⟨u, h1, h2, h3⟩ => ⟨u, h1, h2.own, h3⟩
end Go.Proofs.YtilldpoleiippaaGreatDoor
