/- Contract of the reference's AheadKeep; condition: small sizes. -/
import Derived.Test.YtofedboeggdkaaaKeep
namespace Go.Proofs.Ytofedboeggdkaaa
open Go.RowKit Go.Joins

theorem RowsAt.take {α : Type} {w : World} {a : Option Addr} {k : Nat} {R : α → List Value} {zs : List α} (h : RowsAt w a k R zs) (i : Nat) : RowsAt w a k R (zs.take i) := by
  intro j hj
  rw [List.length_take] at hj
  obtain ⟨b, off, q, hb, hc⟩ := h j (by omega)
  refine ⟨b, off, q, hb, fun t ht => ?_⟩
  rw [List.getElem_take]
  exact hc t ht
theorem RowsAt.tail {α : Type} {w : World} {g off k : Nat} {R : α → List Value} {zs : List α} (h : RowsAt w (some ⟨g, off, none⟩) k R zs) (i c : Nat) (hc : c = i → zs.length ≤ i) : RowsAt w (if c = i then some ⟨g, off, none⟩ else some ⟨g, off + i * k, none⟩) k R (zs.drop i) := by
  split
  · rename_i he
    rw [List.drop_eq_nil_of_le (hc he)]
    exact RowsAt.empty _ _ _ _
  · exact h.drop i
structure Ys where
  v0 : Value
  v1 : Value
  v2 : Value
  v3 : Value
  a : Option Addr
  c : Nat

set_option maxRecDepth 100000 in
set_option maxHeartbeats 16000000 in
theorem sAheadKeep_c (z : Ah) (r : Rq) (a0 a1 : Option Addr) (c0 c1 : Nat) (w : World) (h0 : IsSl w (.slice a0 z.dn.length c0) 5 Rq.cs z.dn) (h1 : IsSl w (.slice a1 z.wt.length c1) 5 Rq.cs z.wt) (hs : z.dn.length + z.wt.length ≤ 1048576) :
    Calls Try.prog 23 #[.agg #[.slice a0 z.dn.length c0, .slice a1 z.wt.length c1, .int .i64 z.bk], .agg #[.int .i64 r.c, .int .i64 r.n, .int .i64 r.o, .int .i64 r.x, .int .i64 r.y]] w (RetAS (keepA z r).1 (keepA z r).2 w) := by
  obtain ⟨dn, wt, bk⟩ := z
  simp only at h0 h1 hs ⊢
  have H0 := Lib.hid h0
  have H1 := Lib.hid h1
  clear h0 h1
  by_cases hA : aheadB ⟨dn, wt, bk⟩ = true
  case neg =>
    have hA' : aheadB ⟨dn, wt, bk⟩ = false := by simpa using hA
    have hp : keepA ⟨dn, wt, bk⟩ r = (⟨[], [], 0⟩, false) := by unfold keepA; rw [if_neg hA]
    rw [hp]
    go_enter Try.func23, Try.ntmps23
    go_wp2_with fail
    obtain ⟨W, hW, sW, aW, bW, cW, kW⟩ := blocks3 w (.cells #[.slice a0 dn.length c0, .slice a1 wt.length c1, .int .i64 bk] 30) (.cells #[.int .i64 r.c, .int .i64 r.n, .int .i64 r.o, .int .i64 r.x, .int .i64 r.y] 34) (.cells #[.slice none 0 0, .slice none 0 0, .int .i64 0] 30)
    rw [← hW]
    clear hW
    refine (l8Ok_c ⟨dn, wt, bk⟩ _ _ _ _ _ (H0.out.below kW) (H1.out.below kW) hs).mono ?_
    rintro e w1 ⟨rfl, k1⟩
    rw [hA']
    have K1 := below_next kW k1
    have cz := cell_of_block (carryB k1 (by omega) cW)
    have fz := unfrozen_of_block (carryB k1 (by omega) cW)
    go_wp2_with fail
    refine bodyPost_ret (v := .tuple #[.agg #[.slice none 0 0, .slice none 0 0, .int .i64 0], .bool false]) (by simp [results, Try.results23, go_sem, cz]) rfl ?_
    exact ⟨none, 0, none, 0, rfl, Row.nil _ _ _ _ _ _, Row.nil _ _ _ _ _ _, (by repeat' (first | with_reducible exact Below.refl _ _ | with_reducible assumption | with_reducible refine Below.alloc ?_ ?_ _ | with_reducible refine Below.drew ?_ | with_reducible refine Below.setCell ?_ ?_ _ | omega | (simp; omega) | (simp; done)))⟩
  have h60 : dn.length + wt.length ≤ 60 ∧ 0 ≤ bk ∧ bk ≤ 99 := by
    unfold aheadB at hA
    simp only [Bool.and_eq_true, decide_eq_true_eq, inB_iff] at hA
    exact ⟨hA.1.2, hA.2.1, hA.2.2⟩
  obtain ⟨h60, hbk0, hbk1⟩ := h60
  go_enter Try.func23, Try.ntmps23
  go_wp2_with fail
  obtain ⟨W, hW, sW, aW, bW, cW, kW⟩ := blocks3 w (.cells #[.slice a0 dn.length c0, .slice a1 wt.length c1, .int .i64 bk] 30) (.cells #[.int .i64 r.c, .int .i64 r.n, .int .i64 r.o, .int .i64 r.x, .int .i64 r.y] 34) (.cells #[.slice none 0 0, .slice none 0 0, .int .i64 0] 30)
  rw [← hW]
  clear hW
  refine (l8Ok_c ⟨dn, wt, bk⟩ _ _ _ _ _ (H0.out.below kW) (H1.out.below kW) hs).mono ?_
  rintro e w1 ⟨rfl, k1⟩
  rw [hA]
  have K1 := below_next kW k1
  have s1 := k1.size
  replace aW := carryB k1 (by omega) aW
  replace bW := carryB k1 (by omega) bW
  replace cW := carryB k1 (by omega) cW
  have caW := cell_of_block aW
  have faW := unfrozen_of_block aW
  have laW := lt_of_block aW
  clear kW k1
  go_wp2_with fail
  refine (l8Copy_c ⟨dn, wt, bk⟩ _ _ _ _ _ _ w1 (H0.out.below K1) (H1.out.below K1) (by omega) (by omega)).mono ?_
  rintro e w2 ⟨v, rfl, ⟨b0, d0, b1, d1, rfl, r0, r1, ap⟩, k2⟩
  simp only at r0 r1
  have K2 := below_next K1 k2
  have R0 := Lib.hid r0
  have R1 := Lib.hid r1
  have AP := Lib.hid ap
  have HB0 := Lib.hid (fun g (hg : rowBlk b0 d0 = some g) => r0.blk hg)
  have HB1 := Lib.hid (fun g (hg : rowBlk b1 d1 = some g) => r1.blk hg)
  have s2 := k2.size
  clear caW faW laW
  replace aW := carryB k2 (by omega) aW
  replace bW := carryB k2 (by omega) bW
  replace cW := carryB k2 (by omega) cW
  clear K1 k2 r0 r1 ap
  have caW := cell_of_block aW
  have faW := unfrozen_of_block aW
  have laW := lt_of_block aW
  have cbW := cell_of_block bW
  have fbW := unfrozen_of_block bW
  have lbW := lt_of_block bW
  have ccW := cell_of_block cW
  have fcW := unfrozen_of_block cW
  have lcW := lt_of_block cW
  go_wp2_with fail
  obtain ⟨X, hX, sX, dW, kX⟩ := blocks1 w2 (.cells #[.slice b0 dn.length d0, .slice b1 wt.length d1, .int .i64 bk] 30)
  rw [← hX]
  clear hX
  clear caW faW laW cbW fbW lbW ccW fcW lcW
  have KX := below_next K2 kX
  refine (l8At_c ⟨dn, wt, bk⟩ r a0 a1 _ _ c0 c1 X (H1.out.below KX)).mono ?_
  rintro e w3 ⟨rfl, k3⟩
  have s3 := k3.size
  replace aW := carryB kX (by omega) aW
  replace bW := carryB kX (by omega) bW
  replace cW := carryB kX (by omega) cW
  replace aW := carryB k3 (by omega) aW
  replace bW := carryB k3 (by omega) bW
  replace cW := carryB k3 (by omega) cW
  replace dW := carryB k3 (by omega) dW
  have K3 := below_next KX k3
  have Q0 := Lib.hid ((R0.out.below kX).below k3)
  have Q1 := Lib.hid ((R1.out.below kX).below k3)
  clear kX k3 K2 KX R0 R1
  have caW := cell_of_block aW
  have faW := unfrozen_of_block aW
  have laW := lt_of_block aW
  have cbW := cell_of_block bW
  have fbW := unfrozen_of_block bW
  have lbW := lt_of_block bW
  have ccW := cell_of_block cW
  have fcW := unfrozen_of_block cW
  have lcW := lt_of_block cW
  have cdW := cell_of_block dW
  have fdW := unfrozen_of_block dW
  have ldW := lt_of_block dW
  go_wp2_with fail
  refine (l1Ok_c r.c r.n r.o r.x r.y w3).mono ?_
  rintro e w4 ⟨rfl, k4⟩
  have s4 := k4.size
  clear caW faW laW cbW fbW lbW ccW fcW lcW cdW fdW ldW
  replace aW := carryB k4 (by omega) aW
  replace bW := carryB k4 (by omega) bW
  replace cW := carryB k4 (by omega) cW
  replace dW := carryB k4 (by omega) dW
  have K4 := below_next K3 k4
  have P0 := Lib.hid (Q0.out.below k4)
  have P1 := Lib.hid (Q1.out.below k4)
  clear k4 K3 Q0 Q1
  have caW := cell_of_block aW
  have faW := unfrozen_of_block aW
  have laW := lt_of_block aW
  have cbW := cell_of_block bW
  have fbW := unfrozen_of_block bW
  have lbW := lt_of_block bW
  have ccW := cell_of_block cW
  have fcW := unfrozen_of_block cW
  have lcW := lt_of_block cW
  have cdW := cell_of_block dW
  have fdW := unfrozen_of_block dW
  have ldW := lt_of_block dW
  have ne_ : ¬ (w.heap.size + 1 + 1 = w2.heap.size) := by omega
  have ne_ : ¬ (w2.heap.size = w.heap.size + 1 + 1) := by omega
  have HX := Lib.hid (idxI_range wt r)
  simp only
  generalize hix : idxI wt r = ix at *
  have HIX := Lib.hid hix
  clear hix
  cases hK : okB r.c r.n r.o r.x r.y with
  | true =>
    have hO : good r = true := by unfold good goodB; rw [hK]; simp
    rcases HX.out with hix | ⟨k, hix, hk⟩
    · subst hix
      by_cases h6 : dn.length + wt.length = 60
      · have hp : keepA ⟨dn, wt, bk⟩ r = (⟨dn, wt, bk⟩, false) := by unfold keepA; rw [if_pos hA, hO, HIX.out]; simp [h6]
        have h60' : (60 : Int) ≤ ((dn.length : Int) + (wt.length : Int)) := by omega
        go_wp2_with fail
        refine bodyPost_ret (v := .tuple #[.agg #[.slice b0 dn.length d0, .slice b1 wt.length d1, .int .i64 bk], .bool false]) (by simp [results, Try.results23, go_sem, ccW]) rfl ?_
        try rw [hp]
        exact ⟨b0, d0, b1, d1, rfl, (((P0.out.setOther (by first | omega | (simp <;> omega)) _).setOther (by first | omega | (simp <;> omega)) _).setOther (by first | omega | (simp <;> omega)) _).low (by omega), (((P1.out.setOther (by first | omega | (simp <;> omega)) _).setOther (by first | omega | (simp <;> omega)) _).setOther (by first | omega | (simp <;> omega)) _).low (by omega), (by repeat' (first | with_reducible exact Below.refl _ _ | with_reducible assumption | with_reducible refine Below.alloc ?_ ?_ _ | with_reducible refine Below.drew ?_ | with_reducible refine Below.setCell ?_ ?_ _ | omega | (simp; omega) | (simp; done)))⟩
      · have h60' : ¬ (60 : Int) ≤ ((dn.length : Int) + (wt.length : Int)) := by omega
        have H6 := Lib.hid h6
        clear h6
        by_cases hw0 : wt.length = 0
        · have hw0' : ¬ (0 : Int) < (wt.length : Int) := by omega
          have HW0 := Lib.hid hw0
          clear hw0
          have hRA := rowsAt_one w4 r 34
          have RA := Lib.hid hRA
          clear hRA
          go_wp2_with (at_builtin; refine wpList_append_row rfl _ _ rfl (dn.length + 1) eltReq rfl rfl (Row.alloc P0.out (.cells #[.int .i64 r.c, .int .i64 r.n, .int .i64 r.o, .int .i64 r.x, .int .i64 r.y] 34)) RA.out rfl rfl rfl (by simp only [maxLen]; omega) (by omega) (by simp <;> omega) ?_)
          intro b2 d2 w6 q6
          have aW6 := (q6.grown.block _ (by first | omega | (simp <;> omega)) (fun e => by have := HB0.out _ e.symm; omega)).trans ((Below.heap_alloc _ _ _ (by first | omega | (simp <;> omega))).trans aW)
          have bW6 := (q6.grown.block _ (by first | omega | (simp <;> omega)) (fun e => by have := HB0.out _ e.symm; omega)).trans ((Below.heap_alloc _ _ _ (by first | omega | (simp <;> omega))).trans bW)
          have cW6 := (q6.grown.block _ (by first | omega | (simp <;> omega)) (fun e => by have := HB0.out _ e.symm; omega)).trans ((Below.heap_alloc _ _ _ (by first | omega | (simp <;> omega))).trans cW)
          have dW6 := (q6.grown.block _ (by first | omega | (simp <;> omega)) (fun e => by have := HB0.out _ e.symm; omega)).trans ((Below.heap_alloc _ _ _ (by first | omega | (simp <;> omega))).trans dW)
          have s6 := q6.grown.size
          simp only [World.size_alloc] at s6
          have K6 := Lib.hid ((Below.alloc K4 (by first | omega | (simp <;> omega)) (.cells #[.int .i64 r.c, .int .i64 r.n, .int .i64 r.o, .int .i64 r.x, .int .i64 r.y] 34)).grown q6.grown (by first | omega | (simp <;> omega)) (fun g hg => by have := HB0.out g hg; omega))
          have P16 := Lib.hid ((P1.out.alloc (.cells #[.int .i64 r.c, .int .i64 r.n, .int .i64 r.o, .int .i64 r.x, .int .i64 r.y] 34)).kept q6.grown (fun g hg e => AP.out g e hg))
          have hb2 : ∀ g, rowBlk b2 d2 = some g → g ≠ w2.heap.size ∧ w1.heap.size ≤ g := fun g hg => by
            have hlow := (q6.row.blk hg).1
            refine ⟨?_, hlow⟩
            rcases q6.blk with q | q
            · have := (HB0.out g (q ▸ hg)).2; omega
            · rw [hg] at q; injection q with q; rw [World.size_alloc] at q; omega
          have HB2 := Lib.hid hb2
          have R6 := Lib.hid q6.row
          have HL6 := Lib.hid (show (dn ++ [r]).length = dn.length + 1 by simp)
          clear q6 RA hb2
          clear caW faW laW cbW fbW lbW ccW fcW lcW cdW fdW ldW
          clear aW bW cW dW
          have aW := aW6
          have bW := bW6
          have cW := cW6
          have dW := dW6
          clear aW6 bW6 cW6 dW6
          have caW := cell_of_block aW
          have faW := unfrozen_of_block aW
          have laW := lt_of_block aW
          have cbW := cell_of_block bW
          have fbW := unfrozen_of_block bW
          have lbW := lt_of_block bW
          have ccW := cell_of_block cW
          have fcW := unfrozen_of_block cW
          have lcW := lt_of_block cW
          have cdW := cell_of_block dW
          have fdW := unfrozen_of_block dW
          have ldW := lt_of_block dW
          go_wp2_with fail
          refine bodyPost_ret (v := .tuple #[.agg #[.slice b2 (dn.length + 1) d2, .slice b1 wt.length d1, .int .i64 bk], .bool true]) (by simp [results, Try.results23, go_sem, ccW]) rfl ?_
          have hp := keepA_eq (wt' := wt) (nb := bk) hA hO HIX.out (by have := H6.out; omega) (by rw [if_neg (by omega)]) (by rw [if_neg (by have := HW0.out; omega)])
          rw [hp]
          unfold RetAS
          simp only [HL6.out]
          have K6' := K6.out
          refine ⟨b2, d2, b1, d1, rfl, ?_, ?_, (by repeat' (first | with_reducible exact Below.refl _ _ | with_reducible assumption | with_reducible refine Below.alloc ?_ ?_ _ | with_reducible refine Below.drew ?_ | with_reducible refine Below.setCell ?_ ?_ _ | omega | (simp; omega) | (simp; done)))⟩
          · exact ((((R6.out.setNe (fun g hg => by have := (HB2.out g hg).1; simp only; omega) _).setOther (by first | omega | (simp <;> omega)) _).setOther (by first | omega | (simp <;> omega)) _).setOther (by first | omega | (simp <;> omega)) _).low (by omega)
          · exact ((((P16.out.setNe (fun g hg => by have := (HB1.out g hg).2; simp only; omega) _).setOther (by first | omega | (simp <;> omega)) _).setOther (by first | omega | (simp <;> omega)) _).setOther (by first | omega | (simp <;> omega)) _).low (by omega)
        · have hw0' : (0 : Int) < (wt.length : Int) := by omega
          by_cases h99 : bk = 99
          · subst h99
            have hRA := rowsAt_one w4 r 34
            have RA := Lib.hid hRA
            clear hRA
            go_wp2_with (at_builtin; refine wpList_append_row rfl _ _ rfl (dn.length + 1) eltReq rfl rfl (Row.alloc P0.out (.cells #[.int .i64 r.c, .int .i64 r.n, .int .i64 r.o, .int .i64 r.x, .int .i64 r.y] 34)) RA.out rfl rfl rfl (by simp only [maxLen]; omega) (by omega) (by simp <;> omega) ?_)
            intro b2 d2 w6 q6
            have aW6 := (q6.grown.block _ (by first | omega | (simp <;> omega)) (fun e => by have := HB0.out _ e.symm; omega)).trans ((Below.heap_alloc _ _ _ (by first | omega | (simp <;> omega))).trans aW)
            have bW6 := (q6.grown.block _ (by first | omega | (simp <;> omega)) (fun e => by have := HB0.out _ e.symm; omega)).trans ((Below.heap_alloc _ _ _ (by first | omega | (simp <;> omega))).trans bW)
            have cW6 := (q6.grown.block _ (by first | omega | (simp <;> omega)) (fun e => by have := HB0.out _ e.symm; omega)).trans ((Below.heap_alloc _ _ _ (by first | omega | (simp <;> omega))).trans cW)
            have dW6 := (q6.grown.block _ (by first | omega | (simp <;> omega)) (fun e => by have := HB0.out _ e.symm; omega)).trans ((Below.heap_alloc _ _ _ (by first | omega | (simp <;> omega))).trans dW)
            have s6 := q6.grown.size
            simp only [World.size_alloc] at s6
            have K6 := Lib.hid ((Below.alloc K4 (by first | omega | (simp <;> omega)) (.cells #[.int .i64 r.c, .int .i64 r.n, .int .i64 r.o, .int .i64 r.x, .int .i64 r.y] 34)).grown q6.grown (by first | omega | (simp <;> omega)) (fun g hg => by have := HB0.out g hg; omega))
            have P16 := Lib.hid ((P1.out.alloc (.cells #[.int .i64 r.c, .int .i64 r.n, .int .i64 r.o, .int .i64 r.x, .int .i64 r.y] 34)).kept q6.grown (fun g hg e => AP.out g e hg))
            have hb2 : ∀ g, rowBlk b2 d2 = some g → g ≠ w2.heap.size ∧ w1.heap.size ≤ g := fun g hg => by
              have hlow := (q6.row.blk hg).1
              refine ⟨?_, hlow⟩
              rcases q6.blk with q | q
              · have := (HB0.out g (q ▸ hg)).2; omega
              · rw [hg] at q; injection q with q; rw [World.size_alloc] at q; omega
            have HB2 := Lib.hid hb2
            have R6 := Lib.hid q6.row
            have HL6 := Lib.hid (show (dn ++ [r]).length = dn.length + 1 by simp)
            clear q6 RA hb2
            clear caW faW laW cbW fbW lbW ccW fcW lcW cdW fdW ldW
            clear aW bW cW dW
            have aW := aW6
            have bW := bW6
            have cW := cW6
            have dW := dW6
            clear aW6 bW6 cW6 dW6
            have caW := cell_of_block aW
            have faW := unfrozen_of_block aW
            have laW := lt_of_block aW
            have cbW := cell_of_block bW
            have fbW := unfrozen_of_block bW
            have lbW := lt_of_block bW
            have ccW := cell_of_block cW
            have fcW := unfrozen_of_block cW
            have lcW := lt_of_block cW
            have cdW := cell_of_block dW
            have fdW := unfrozen_of_block dW
            have ldW := lt_of_block dW
            go_wp2_with fail
            refine bodyPost_ret (v := .tuple #[.agg #[.slice b2 (dn.length + 1) d2, .slice b1 wt.length d1, .int .i64 99], .bool true]) (by simp [results, Try.results23, go_sem, ccW]) rfl ?_
            have hp := keepA_eq (wt' := wt) (nb := 99) hA hO HIX.out (by have := H6.out; omega) (by rw [if_neg (by omega)]) (by rw [if_pos ⟨by omega, by omega⟩]; rfl)
            rw [hp]
            unfold RetAS
            simp only [HL6.out]
            have K6' := K6.out
            refine ⟨b2, d2, b1, d1, rfl, ?_, ?_, (by repeat' (first | with_reducible exact Below.refl _ _ | with_reducible assumption | with_reducible refine Below.alloc ?_ ?_ _ | with_reducible refine Below.drew ?_ | with_reducible refine Below.setCell ?_ ?_ _ | omega | (simp; omega) | (simp; done)))⟩
            · exact ((((R6.out.setNe (fun g hg => by have := (HB2.out g hg).1; simp only; omega) _).setOther (by first | omega | (simp <;> omega)) _).setOther (by first | omega | (simp <;> omega)) _).setOther (by first | omega | (simp <;> omega)) _).low (by omega)
            · exact ((((P16.out.setNe (fun g hg => by have := (HB1.out g hg).2; simp only; omega) _).setOther (by first | omega | (simp <;> omega)) _).setOther (by first | omega | (simp <;> omega)) _).setOther (by first | omega | (simp <;> omega)) _).low (by omega)
          · have h99' : bk < 99 := by omega
            have hRA := rowsAt_one w4 r 34
            have RA := Lib.hid hRA
            clear hRA
            go_wp2_with (at_builtin; refine wpList_append_row rfl _ _ rfl (dn.length + 1) eltReq rfl rfl (Row.alloc P0.out (.cells #[.int .i64 r.c, .int .i64 r.n, .int .i64 r.o, .int .i64 r.x, .int .i64 r.y] 34)) RA.out rfl rfl rfl (by simp only [maxLen]; omega) (by omega) (by simp <;> omega) ?_)
            intro b2 d2 w6 q6
            have aW6 := (q6.grown.block _ (by first | omega | (simp <;> omega)) (fun e => by have := HB0.out _ e.symm; omega)).trans ((Below.heap_alloc _ _ _ (by first | omega | (simp <;> omega))).trans aW)
            have bW6 := (q6.grown.block _ (by first | omega | (simp <;> omega)) (fun e => by have := HB0.out _ e.symm; omega)).trans ((Below.heap_alloc _ _ _ (by first | omega | (simp <;> omega))).trans bW)
            have cW6 := (q6.grown.block _ (by first | omega | (simp <;> omega)) (fun e => by have := HB0.out _ e.symm; omega)).trans ((Below.heap_alloc _ _ _ (by first | omega | (simp <;> omega))).trans cW)
            have dW6 := (q6.grown.block _ (by first | omega | (simp <;> omega)) (fun e => by have := HB0.out _ e.symm; omega)).trans ((Below.heap_alloc _ _ _ (by first | omega | (simp <;> omega))).trans dW)
            have s6 := q6.grown.size
            simp only [World.size_alloc] at s6
            have K6 := Lib.hid ((Below.alloc K4 (by first | omega | (simp <;> omega)) (.cells #[.int .i64 r.c, .int .i64 r.n, .int .i64 r.o, .int .i64 r.x, .int .i64 r.y] 34)).grown q6.grown (by first | omega | (simp <;> omega)) (fun g hg => by have := HB0.out g hg; omega))
            have P16 := Lib.hid ((P1.out.alloc (.cells #[.int .i64 r.c, .int .i64 r.n, .int .i64 r.o, .int .i64 r.x, .int .i64 r.y] 34)).kept q6.grown (fun g hg e => AP.out g e hg))
            have hb2 : ∀ g, rowBlk b2 d2 = some g → g ≠ w2.heap.size ∧ w1.heap.size ≤ g := fun g hg => by
              have hlow := (q6.row.blk hg).1
              refine ⟨?_, hlow⟩
              rcases q6.blk with q | q
              · have := (HB0.out g (q ▸ hg)).2; omega
              · rw [hg] at q; injection q with q; rw [World.size_alloc] at q; omega
            have HB2 := Lib.hid hb2
            have R6 := Lib.hid q6.row
            have HL6 := Lib.hid (show (dn ++ [r]).length = dn.length + 1 by simp)
            clear q6 RA hb2
            clear caW faW laW cbW fbW lbW ccW fcW lcW cdW fdW ldW
            clear aW bW cW dW
            have aW := aW6
            have bW := bW6
            have cW := cW6
            have dW := dW6
            clear aW6 bW6 cW6 dW6
            have caW := cell_of_block aW
            have faW := unfrozen_of_block aW
            have laW := lt_of_block aW
            have cbW := cell_of_block bW
            have fbW := unfrozen_of_block bW
            have lbW := lt_of_block bW
            have ccW := cell_of_block cW
            have fcW := unfrozen_of_block cW
            have lcW := lt_of_block cW
            have cdW := cell_of_block dW
            have fdW := unfrozen_of_block dW
            have ldW := lt_of_block dW
            have hb1' : IntKind.i64.wrap (bk + 1) = bk + 1 := IntWalk.i64_in _ ⟨by omega, by omega⟩
            go_wp2_with fail
            refine bodyPost_ret (v := .tuple #[.agg #[.slice b2 (dn.length + 1) d2, .slice b1 wt.length d1, .int .i64 (bk + 1)], .bool true]) (by simp [results, Try.results23, go_sem, ccW]) rfl ?_
            have hp := keepA_eq (wt' := wt) (nb := (bk + 1)) hA hO HIX.out (by have := H6.out; omega) (by rw [if_neg (by omega)]) (by rw [if_pos ⟨by omega, by omega⟩, if_pos (by omega)])
            rw [hp]
            unfold RetAS
            simp only [HL6.out]
            have K6' := K6.out
            refine ⟨b2, d2, b1, d1, rfl, ?_, ?_, (by repeat' (first | with_reducible exact Below.refl _ _ | with_reducible assumption | with_reducible refine Below.alloc ?_ ?_ _ | with_reducible refine Below.drew ?_ | with_reducible refine Below.setCell ?_ ?_ _ | omega | (simp; omega) | (simp; done)))⟩
            · exact (((((R6.out.setNe (fun g hg => by have := (HB2.out g hg).1; simp only; omega) _).setNe (fun g hg => by have := (HB2.out g hg).1; simp only; omega) _).setOther (by first | omega | (simp <;> omega)) _).setOther (by first | omega | (simp <;> omega)) _).setOther (by first | omega | (simp <;> omega)) _).low (by omega)
            · exact (((((P16.out.setNe (fun g hg => by have := (HB1.out g hg).2; simp only; omega) _).setNe (fun g hg => by have := (HB1.out g hg).2; simp only; omega) _).setOther (by first | omega | (simp <;> omega)) _).setOther (by first | omega | (simp <;> omega)) _).setOther (by first | omega | (simp <;> omega)) _).low (by omega)
    · subst hix
      have hx0 : ¬ ((k : Nat) : Int) < 0 := by omega
      have hx1 : (0 : Int) ≤ ((k : Nat) : Int) := by omega
      have hw0' : (0 : Int) < (wt.length : Int) := by omega
      by_cases hk0 : k = 0
      · subst hk0
        have hRA := rowsAt_one w4 r 34
        have RA := Lib.hid hRA
        clear hRA
        go_wp2_with (at_builtin; refine wpList_append_row rfl _ _ rfl (dn.length + 1) eltReq rfl rfl (Row.alloc P0.out (.cells #[.int .i64 r.c, .int .i64 r.n, .int .i64 r.o, .int .i64 r.x, .int .i64 r.y] 34)) RA.out rfl rfl rfl (by simp only [maxLen]; omega) (by omega) (by simp <;> omega) ?_)
        intro b2 d2 w6 q6
        have aW6 := (q6.grown.block _ (by first | omega | (simp <;> omega)) (fun e => by have := HB0.out _ e.symm; omega)).trans ((Below.heap_alloc _ _ _ (by first | omega | (simp <;> omega))).trans aW)
        have bW6 := (q6.grown.block _ (by first | omega | (simp <;> omega)) (fun e => by have := HB0.out _ e.symm; omega)).trans ((Below.heap_alloc _ _ _ (by first | omega | (simp <;> omega))).trans bW)
        have cW6 := (q6.grown.block _ (by first | omega | (simp <;> omega)) (fun e => by have := HB0.out _ e.symm; omega)).trans ((Below.heap_alloc _ _ _ (by first | omega | (simp <;> omega))).trans cW)
        have dW6 := (q6.grown.block _ (by first | omega | (simp <;> omega)) (fun e => by have := HB0.out _ e.symm; omega)).trans ((Below.heap_alloc _ _ _ (by first | omega | (simp <;> omega))).trans dW)
        have s6 := q6.grown.size
        simp only [World.size_alloc] at s6
        have K6 := Lib.hid ((Below.alloc K4 (by first | omega | (simp <;> omega)) (.cells #[.int .i64 r.c, .int .i64 r.n, .int .i64 r.o, .int .i64 r.x, .int .i64 r.y] 34)).grown q6.grown (by first | omega | (simp <;> omega)) (fun g hg => by have := HB0.out g hg; omega))
        have P16 := Lib.hid ((P1.out.alloc (.cells #[.int .i64 r.c, .int .i64 r.n, .int .i64 r.o, .int .i64 r.x, .int .i64 r.y] 34)).kept q6.grown (fun g hg e => AP.out g e hg))
        have hb2 : ∀ g, rowBlk b2 d2 = some g → g ≠ w2.heap.size ∧ w1.heap.size ≤ g := fun g hg => by
          have hlow := (q6.row.blk hg).1
          refine ⟨?_, hlow⟩
          rcases q6.blk with q | q
          · have := (HB0.out g (q ▸ hg)).2; omega
          · rw [hg] at q; injection q with q; rw [World.size_alloc] at q; omega
        have HB2 := Lib.hid hb2
        have R6 := Lib.hid q6.row
        have HL6 := Lib.hid (show (dn ++ [r]).length = dn.length + 1 by simp)
        clear q6 RA hb2
        clear caW faW laW cbW fbW lbW ccW fcW lcW cdW fdW ldW
        clear aW bW cW dW
        have aW := aW6
        have bW := bW6
        have cW := cW6
        have dW := dW6
        clear aW6 bW6 cW6 dW6
        have caW := cell_of_block aW
        have faW := unfrozen_of_block aW
        have laW := lt_of_block aW
        have cbW := cell_of_block bW
        have fbW := unfrozen_of_block bW
        have lbW := lt_of_block bW
        have ccW := cell_of_block cW
        have fcW := unfrozen_of_block cW
        have lcW := lt_of_block cW
        have cdW := cell_of_block dW
        have fdW := unfrozen_of_block dW
        have ldW := lt_of_block dW
        go_wp2_with fail
        obtain ⟨Z, hZ, sZ, dZ, oZ, kZ⟩ := stored1 w6 w2.heap.size 0 (.slice b2 (dn.length + 1) d2) dW
        rw [← hZ]
        have R6Z := Lib.hid (show Row Z w1.heap.size 34 b2 d2 5 Rq.cs (dn ++ [r]) by rw [hZ]; exact R6.out.setNe (fun g hg => by have := (HB2.out g hg).1; simp only; omega) _)
        replace aW := (oZ _ (by omega)).trans aW
        replace bW := (oZ _ (by omega)).trans bW
        replace cW := (oZ _ (by omega)).trans cW
        replace dW : Z.heap[w2.heap.size]? = some (.cells #[.slice b2 (dn.length + 1) d2, .slice b1 wt.length d1, .int .i64 bk] 30 (0, 0)) := dZ
        have KZ := Lib.hid (K6.out.trans (kZ.mono (by omega)))
        clear caW faW laW cbW fbW lbW ccW fcW lcW cdW fdW ldW
        clear hZ oZ kZ dZ
        clear sZ
        have s6Z : w2.heap.size < Z.heap.size := lt_of_block dW
        have caW := cell_of_block aW
        have faW := unfrozen_of_block aW
        have laW := lt_of_block aW
        have cbW := cell_of_block bW
        have fbW := unfrozen_of_block bW
        have lbW := lt_of_block bW
        have ccW := cell_of_block cW
        have fcW := unfrozen_of_block cW
        have lcW := lt_of_block cW
        have cdW := cell_of_block dW
        have fdW := unfrozen_of_block dW
        have ldW := lt_of_block dW
        obtain ⟨ab, ao, ha1, hab, -⟩ := H1.out.bounds.2.2.2 0 hk
        subst ha1
        have hlc1 := H1.out.bounds.2.1
        have hmc1 := H1.out.bounds.2.2.1
        unfold maxLen at hmc1
        have g1 : ((0 : Nat) : Int) ≤ (c1 : Int) := by omega
        have g2 : ((0 : Nat) : Int) + 1 ≤ (wt.length : Int) := by omega
        have g3 : ¬ c1 = 0 := by omega
        have g4 : 0 + 1 ≤ wt.length := by omega
        have g5 : ((0 : Nat) : Int) < (wt.length : Int) := by omega
        have g6 : (wt.length : Int) ≤ (c1 : Int) := by omega
        have g7 : IntKind.i64.wrap 1 = 1 := by decide
        have g8 : (1 : Int) ≤ (wt.length : Int) := by omega
        have hrw := Lib.hid (H1.out.rowsAt KZ.out)
        refine wp_region_held_drew (S := fun w' => ((∀ o, w'.cell? ⟨w.heap.size, o, none⟩ = Z.cell? ⟨w.heap.size, o, none⟩) ∧ Below w2.heap.size Z w')) (by kernel_rfl) ⟨fun _ => rfl, Below.drew (Below.refl _ _)⟩ (fun hHeld => ?_)
        refine introFin2 (X := Ys) 0 #[true, true, true, true, true, true, true, true, true, true, true, true, true, true] (fun x T => (((((((((((((T.setIfInBounds 48 x.v0).setIfInBounds 49 (.pointer (some ⟨w.heap.size, 1, none⟩))).setIfInBounds 50 (.slice (some ⟨ab, ao, none⟩) wt.length c1)).setIfInBounds 51 (.int .i64 0)).setIfInBounds 52 x.v1).setIfInBounds 53 x.v2).setIfInBounds 54 (.pointer (some ⟨w.heap.size, 1, none⟩))).setIfInBounds 55 (.slice (some ⟨ab, ao, none⟩) wt.length c1)).setIfInBounds 56 (.int .i64 0)).setIfInBounds 57 (.int .i64 1)).setIfInBounds 58 x.v3).setIfInBounds 59 (.slice x.a (wt.length - 1) x.c)).setIfInBounds 60 (.pointer (some ⟨w2.heap.size, 1, none⟩)))) (fun x w' => Below w2.heap.size Z w' ∧ w'.heap[w2.heap.size]? = some (.cells #[.slice b2 (dn.length + 1) d2, .slice x.a (wt.length - 1) x.c, .int .i64 bk] 30 (0, 0)) ∧ Row w' Z.heap.size 34 x.a x.c 5 Rq.cs (wt.eraseIdx 0) ∧ Row w' w1.heap.size 34 b2 d2 5 Rq.cs (dn ++ [r])) ?_ (fun hfin => ?_)
        rotate_left
        · obtain ⟨wd, hwd, kwd⟩ : ∃ wd, wd = Z.drew ∧ Below Z.heap.size Z wd := ⟨_, rfl, Below.drew (Below.refl _ _)⟩
          rw [← hwd] at hHeld ⊢
          clear hwd
          have sd := kwd.size
          have szd := Lib.hid sd
          refine wpAnyH_take (i := 1) (oi := _) (v := ?_) (by (simp only [List.getElem?_toArray]; rfl)) (by kernel_rfl) (by kernel_rfl) (by kernel_rfl) (by exact fun _ _ _ h => h) (Or.inl ⟨by rfl, ?_⟩) (by assumption) ?_
          rotate_left
          · intro wS hSw
            go_simp
            all_goals first | with_reducible rfl | rw [if_neg (by omega)]
          simp only [Act.put, List.setIfInBounds_toArray, List.set]
          refine wpAnyH_take (i := 2) (oi := _) (v := ?_) (by (simp only [List.getElem?_toArray]; rfl)) (by kernel_rfl) (by kernel_rfl) (by kernel_rfl) (by exact fun _ _ _ h => h) (Or.inl ⟨by rfl, ?_⟩) (by assumption) ?_
          rotate_left
          · intro wS hSw
            go_simp
            all_goals first | with_reducible rfl | rw [if_neg (by omega)]
          simp only [Act.put, List.setIfInBounds_toArray, List.set]
          refine wpAnyH_take (i := 3) (oi := _) (v := ?_) (by (simp only [List.getElem?_toArray]; rfl)) (by kernel_rfl) (by kernel_rfl) (by kernel_rfl) (by exact fun _ _ _ h => h) (Or.inl ⟨by rfl, ?_⟩) (by assumption) ?_
          rotate_left
          · intro wS hSw
            go_simp
            all_goals first | with_reducible rfl | rw [if_neg (by omega)]
          simp only [Act.put, List.setIfInBounds_toArray, List.set]
          refine wpAnyH_take (i := 4) (oi := _) (v := ?_) (by (simp only [List.getElem?_toArray]; rfl)) (by kernel_rfl) (by kernel_rfl) (by kernel_rfl) (by exact fun _ _ _ h => h) (Or.inl ⟨by rfl, ?_⟩) (by assumption) ?_
          rotate_left
          · intro wS hSw
            go_simp
            all_goals first | with_reducible rfl | rw [if_neg (by omega)]
          simp only [Act.put, List.setIfInBounds_toArray, List.set]
          refine wpAnyH_take (i := 6) (oi := _) (v := ?_) (by (simp only [List.getElem?_toArray]; rfl)) (by kernel_rfl) (by kernel_rfl) (by kernel_rfl) (by exact fun _ _ _ h => h) (Or.inl ⟨by rfl, ?_⟩) (by assumption) ?_
          rotate_left
          · intro wS hSw
            go_simp
            all_goals first | with_reducible rfl | rw [if_neg (by omega)]
          simp only [Act.put, List.setIfInBounds_toArray, List.set]
          refine wpAnyH_take (i := 7) (oi := _) (v := ?_) (by (simp only [List.getElem?_toArray]; rfl)) (by kernel_rfl) (by kernel_rfl) (by kernel_rfl) (by exact fun _ _ _ h => h) (Or.inl ⟨by rfl, ?_⟩) (by assumption) ?_
          rotate_left
          · intro wS hSw
            go_simp
            all_goals first | with_reducible rfl | rw [if_neg (by omega)]
          simp only [Act.put, List.setIfInBounds_toArray, List.set]
          refine wpAnyH_take (i := 8) (oi := _) (v := ?_) (by (simp only [List.getElem?_toArray]; rfl)) (by kernel_rfl) (by kernel_rfl) (by kernel_rfl) (by exact fun _ _ _ h => h) (Or.inl ⟨by rfl, ?_⟩) (by assumption) ?_
          rotate_left
          · intro wS hSw
            go_simp
            all_goals first | with_reducible rfl | rw [if_neg (by omega)]
          simp only [Act.put, List.setIfInBounds_toArray, List.set]
          refine wpAnyH_take (i := 9) (oi := _) (v := ?_) (by (simp only [List.getElem?_toArray]; rfl)) (by kernel_rfl) (by kernel_rfl) (by kernel_rfl) (by exact fun _ _ _ h => h) (Or.inl ⟨by rfl, ?_⟩) (by assumption) ?_
          rotate_left
          · intro wS hSw
            go_simp
            all_goals first | with_reducible rfl | rw [if_neg (by omega)]
          simp only [Act.put, List.setIfInBounds_toArray, List.set]
          refine wpAnyH_take (i := 10) (oi := _) (v := ?_) (by (simp only [List.getElem?_toArray]; rfl)) (by kernel_rfl) (by kernel_rfl) (by kernel_rfl) (by exact fun _ _ _ h => h) (Or.inl ⟨by rfl, ?_⟩) (by assumption) ?_
          rotate_left
          · intro wS hSw
            go_simp
            all_goals first | with_reducible rfl | rw [if_neg (by omega)]
          simp only [Act.put, List.setIfInBounds_toArray, List.set]
          refine wpAnyH_ready (rs := [0]) (by kernel_rfl) (by simp) ?_
          refine AllReadyH.cons (o := _) (by (simp only [List.getElem?_toArray]; rfl)) (fun K hK => ?_) AllReadyH.nil
          refine step_build0 (by rfl) (by rfl) eltReq ?_
          obtain ⟨we, hwe, swe, be, kwe⟩ := blocks1 wd (.cells #[] 34)
          rw [← hwe]
          clear hwe
          have ke := Lib.hid (below_next kwd kwe)
          refine hK.out _ _ ⟨fun o => ke.out.cell (p := ⟨w.heap.size, o, none⟩) (by show w.heap.size < Z.heap.size; omega), ke.out.mono (by omega)⟩ (fun hHeld => ?_)
          clear hK K hHeld
          simp only [Act.put, List.setIfInBounds_toArray, List.set]
          refine wpAnyH_ready (rs := [5]) (by kernel_rfl) (by simp) ?_
          refine AllReadyH.cons (o := _) (by (simp only [List.getElem?_toArray]; rfl)) (fun K hK => ?_) AllReadyH.nil
          refine step_append_new Z.heap.size (by rfl) (.tmp 48) (.tmp 52) (by rfl) eltReq (by rfl) (by rfl) ((hrw.out.take 0).below (KZ.out.size |> fun _ => ke.out)) (by rw [List.length_take]; omega) (by simp only [maxLen]; omega) (by omega) (by have := ke.out.size; omega) ?_
          intro a8 c8 w8 q8
          have k8 := Lib.hid (below_next ke.out q8.below)
          refine hK.out _ _ ⟨fun o => k8.out.cell (p := ⟨w.heap.size, o, none⟩) (by show w.heap.size < Z.heap.size; omega), k8.out.mono (by omega)⟩ (fun hHeld => ?_)
          clear hK K hHeld
          simp only [Act.put, List.setIfInBounds_toArray, List.set]
          refine wpAnyH_ready (rs := [11]) (by kernel_rfl) (by simp) ?_
          refine AllReadyH.cons (o := _) (by (simp only [List.getElem?_toArray]; rfl)) (fun K hK => ?_) AllReadyH.nil
          refine step_append_elt (by rfl) (.tmp 53) (.tmp 58) (by rfl) (wt.length - 1) eltReq (by rfl) (by rfl) q8.row (ys := wt.drop (0 + 1)) ((hrw.out.below k8.out).tail (0 + 1) c1 (fun h => by omega)) (by rw [List.length_take]; omega) (by rw [List.length_drop]) (by omega) (by simp only [maxLen]; omega) (by omega) k8.out.size ?_
          intro a9 c9 w9 q9
          have er : wt.take 0 ++ wt.drop (0 + 1) = wt.eraseIdx 0 := (List.eraseIdx_eq_take_drop_succ wt 0).symm
          have r9 := q9.row
          rw [er] at r9
          have k9 : Below Z.heap.size Z w9 := k8.out.grown q9.grown k8.out.size (fun g hg => (q8.row.blk hg).1)
          have dW9 := (k9.block _ s6Z).trans dW
          have R69 := (((R6Z.out.below kwd).below kwe).below q8.below).kept q9.grown (fun g hg e => by have := (R6Z.out.blk hg).2; have := (q8.row.blk e).1; omega)
          refine hK.out _ _ ⟨fun o => k9.cell (p := ⟨w.heap.size, o, none⟩) (by show w.heap.size < Z.heap.size; omega), k9.mono (by omega)⟩ (fun hHeld => ?_)
          clear hK K
          simp only [Act.put, List.setIfInBounds_toArray, List.set]
          refine wpAnyH_take (i := 12) (oi := _) (v := ?_) (by (simp only [List.getElem?_toArray]; rfl)) (by kernel_rfl) (by kernel_rfl) (by kernel_rfl) (by exact fun _ _ _ h => h) (Or.inl ⟨by rfl, ?_⟩) (by assumption) ?_
          rotate_left
          · intro wS hSw
            go_simp
            all_goals first | with_reducible rfl | rw [if_neg (by omega)]
          simp only [Act.put, List.setIfInBounds_toArray, List.set]
          have c9W := cell_of_block dW9
          have f9W := unfrozen_of_block dW9
          refine wpAnyH_ready (rs := [13]) (by kernel_rfl) (by simp) ?_
          refine AllReadyH.cons (o := _) (by (simp only [List.getElem?_toArray]; rfl)) (fun K hK => ?_) AllReadyH.nil
          go_simp
          have kS := (k9.mono (show w2.heap.size ≤ Z.heap.size by omega)).setCell (p := ⟨w2.heap.size, 1, none⟩) (Nat.le_refl _) (.slice a9 (wt.length - 1) c9)
          refine hK.out _ _ ⟨fun o => (by rw [World.cell?_setCell_other (h := by simp <;> omega)] : _ = w9.cell? ⟨w.heap.size, o, none⟩).trans (k9.cell (p := ⟨w.heap.size, o, none⟩) (by show w.heap.size < Z.heap.size; omega)), kS⟩ (fun hHeld => ?_)
          clear hK K hHeld
          refine hfin (Ys.mk ?_ ?_ ?_ ?_ a9 c9) _ _ _ (by kernel_rfl) ?_ ⟨kS, block_setCell (i := 1) dW9 (.slice a9 (wt.length - 1) c9), r9.setOther (by simp <;> omega) _, R69.setNe (fun g hg => by have := (HB2.out g hg).1; simp only; omega) _⟩
          rotate_left 4
          simp only [List.setIfInBounds_toArray, List.set]
          rfl
        rintro ⟨v0, v1, v2, v3, b4, d4⟩ w9 ⟨k9, dW9, r4, r69⟩
        simp only at k9 dW9 r4 r69 ⊢
        simp only [List.setIfInBounds_toArray, List.set]
        refine wpAnyH_done (by kernel_rfl) ?_ _
        clear caW faW laW cbW fbW lbW ccW fcW lcW cdW fdW ldW
        replace aW := (k9.block _ (by omega)).trans aW
        replace bW := (k9.block _ (by omega)).trans bW
        replace cW := (k9.block _ (by omega)).trans cW
        clear dW
        have dW := dW9
        clear dW9
        have K9 := KZ.out.trans (k9.mono (by omega))
        have s9 := k9.size
        have R4 := Lib.hid r4
        have R69 := Lib.hid r69
        clear k9 r4 r69
        have HL8 := Lib.hid (show (wt.eraseIdx 0).length = wt.length - 1 by rw [List.length_eraseIdx, if_pos hk])
        have caW := cell_of_block aW
        have faW := unfrozen_of_block aW
        have laW := lt_of_block aW
        have cbW := cell_of_block bW
        have fbW := unfrozen_of_block bW
        have lbW := lt_of_block bW
        have ccW := cell_of_block cW
        have fcW := unfrozen_of_block cW
        have lcW := lt_of_block cW
        have cdW := cell_of_block dW
        have fdW := unfrozen_of_block dW
        have ldW := lt_of_block dW
        go_wp2_with fail
        refine bodyPost_ret (v := .tuple #[.agg #[.slice b2 (dn.length + 1) d2, .slice b4 (wt.length - 1) d4, .int .i64 bk], .bool true]) (by simp [results, Try.results23, go_sem, ccW]) rfl ?_
        have hp := keepA_eq (wt' := wt.eraseIdx 0) (nb := bk) hA hO HIX.out (by omega) (by rw [if_pos (by omega)]; rfl) (by rw [if_neg (by omega)])
        rw [hp]
        unfold RetAS
        simp only [HL6.out, HL8.out]
        refine ⟨b2, d2, b4, d4, rfl, ?_, ?_, (by repeat' (first | with_reducible exact Below.refl _ _ | with_reducible assumption | with_reducible refine Below.alloc ?_ ?_ _ | with_reducible refine Below.drew ?_ | with_reducible refine Below.setCell ?_ ?_ _ | omega | (simp; omega) | (simp; done)))⟩
        · exact (((R69.out.setOther (by first | omega | (simp <;> omega)) _).setOther (by first | omega | (simp <;> omega)) _).setOther (by first | omega | (simp <;> omega)) _).low (by omega)
        · exact (((R4.out.setOther (by first | omega | (simp <;> omega)) _).setOther (by first | omega | (simp <;> omega)) _).setOther (by first | omega | (simp <;> omega)) _).low (by omega)
      · have hk0' : ¬ ((k : Nat) : Int) = 0 := by omega
        have hwk : IntKind.i64.wrap ((k : Int) + 1) = (k : Int) + 1 := IntWalk.i64_in _ ⟨by omega, by omega⟩
        by_cases h99 : bk = 99
        · subst h99
          have hRA := rowsAt_one w4 r 34
          have RA := Lib.hid hRA
          clear hRA
          go_wp2_with (at_builtin; refine wpList_append_row rfl _ _ rfl (dn.length + 1) eltReq rfl rfl (Row.alloc P0.out (.cells #[.int .i64 r.c, .int .i64 r.n, .int .i64 r.o, .int .i64 r.x, .int .i64 r.y] 34)) RA.out rfl rfl rfl (by simp only [maxLen]; omega) (by omega) (by simp <;> omega) ?_)
          intro b2 d2 w6 q6
          have aW6 := (q6.grown.block _ (by first | omega | (simp <;> omega)) (fun e => by have := HB0.out _ e.symm; omega)).trans ((Below.heap_alloc _ _ _ (by first | omega | (simp <;> omega))).trans aW)
          have bW6 := (q6.grown.block _ (by first | omega | (simp <;> omega)) (fun e => by have := HB0.out _ e.symm; omega)).trans ((Below.heap_alloc _ _ _ (by first | omega | (simp <;> omega))).trans bW)
          have cW6 := (q6.grown.block _ (by first | omega | (simp <;> omega)) (fun e => by have := HB0.out _ e.symm; omega)).trans ((Below.heap_alloc _ _ _ (by first | omega | (simp <;> omega))).trans cW)
          have dW6 := (q6.grown.block _ (by first | omega | (simp <;> omega)) (fun e => by have := HB0.out _ e.symm; omega)).trans ((Below.heap_alloc _ _ _ (by first | omega | (simp <;> omega))).trans dW)
          have s6 := q6.grown.size
          simp only [World.size_alloc] at s6
          have K6 := Lib.hid ((Below.alloc K4 (by first | omega | (simp <;> omega)) (.cells #[.int .i64 r.c, .int .i64 r.n, .int .i64 r.o, .int .i64 r.x, .int .i64 r.y] 34)).grown q6.grown (by first | omega | (simp <;> omega)) (fun g hg => by have := HB0.out g hg; omega))
          have P16 := Lib.hid ((P1.out.alloc (.cells #[.int .i64 r.c, .int .i64 r.n, .int .i64 r.o, .int .i64 r.x, .int .i64 r.y] 34)).kept q6.grown (fun g hg e => AP.out g e hg))
          have hb2 : ∀ g, rowBlk b2 d2 = some g → g ≠ w2.heap.size ∧ w1.heap.size ≤ g := fun g hg => by
            have hlow := (q6.row.blk hg).1
            refine ⟨?_, hlow⟩
            rcases q6.blk with q | q
            · have := (HB0.out g (q ▸ hg)).2; omega
            · rw [hg] at q; injection q with q; rw [World.size_alloc] at q; omega
          have HB2 := Lib.hid hb2
          have R6 := Lib.hid q6.row
          have HL6 := Lib.hid (show (dn ++ [r]).length = dn.length + 1 by simp)
          clear q6 RA hb2
          clear caW faW laW cbW fbW lbW ccW fcW lcW cdW fdW ldW
          clear aW bW cW dW
          have aW := aW6
          have bW := bW6
          have cW := cW6
          have dW := dW6
          clear aW6 bW6 cW6 dW6
          have caW := cell_of_block aW
          have faW := unfrozen_of_block aW
          have laW := lt_of_block aW
          have cbW := cell_of_block bW
          have fbW := unfrozen_of_block bW
          have lbW := lt_of_block bW
          have ccW := cell_of_block cW
          have fcW := unfrozen_of_block cW
          have lcW := lt_of_block cW
          have cdW := cell_of_block dW
          have fdW := unfrozen_of_block dW
          have ldW := lt_of_block dW
          go_wp2_with fail
          obtain ⟨Z, hZ, sZ, dZ, oZ, kZ⟩ := stored1 w6 w2.heap.size 0 (.slice b2 (dn.length + 1) d2) dW
          rw [← hZ]
          have R6Z := Lib.hid (show Row Z w1.heap.size 34 b2 d2 5 Rq.cs (dn ++ [r]) by rw [hZ]; exact R6.out.setNe (fun g hg => by have := (HB2.out g hg).1; simp only; omega) _)
          replace aW := (oZ _ (by omega)).trans aW
          replace bW := (oZ _ (by omega)).trans bW
          replace cW := (oZ _ (by omega)).trans cW
          replace dW : Z.heap[w2.heap.size]? = some (.cells #[.slice b2 (dn.length + 1) d2, .slice b1 wt.length d1, .int .i64 99] 30 (0, 0)) := dZ
          have KZ := Lib.hid (K6.out.trans (kZ.mono (by omega)))
          clear caW faW laW cbW fbW lbW ccW fcW lcW cdW fdW ldW
          clear hZ oZ kZ dZ
          clear sZ
          have s6Z : w2.heap.size < Z.heap.size := lt_of_block dW
          have caW := cell_of_block aW
          have faW := unfrozen_of_block aW
          have laW := lt_of_block aW
          have cbW := cell_of_block bW
          have fbW := unfrozen_of_block bW
          have lbW := lt_of_block bW
          have ccW := cell_of_block cW
          have fcW := unfrozen_of_block cW
          have lcW := lt_of_block cW
          have cdW := cell_of_block dW
          have fdW := unfrozen_of_block dW
          have ldW := lt_of_block dW
          obtain ⟨ab, ao, ha1, hab, -⟩ := H1.out.bounds.2.2.2 k hk
          subst ha1
          have hlc1 := H1.out.bounds.2.1
          have hmc1 := H1.out.bounds.2.2.1
          unfold maxLen at hmc1
          have g1 : ((k : Nat) : Int) ≤ (c1 : Int) := by omega
          have g2 : ((k : Nat) : Int) + 1 ≤ (wt.length : Int) := by omega
          have g3 : ¬ c1 = 0 := by omega
          have g4 : k + 1 ≤ wt.length := by omega
          have g5 : ((k : Nat) : Int) < (wt.length : Int) := by omega
          have g6 : (wt.length : Int) ≤ (c1 : Int) := by omega
          have g7 : (0 : Int) ≤ ((k : Nat) : Int) + 1 := by omega
          have hrw := Lib.hid (H1.out.rowsAt KZ.out)
          refine wp_region_held_drew (S := fun w' => ((∀ o, w'.cell? ⟨w.heap.size, o, none⟩ = Z.cell? ⟨w.heap.size, o, none⟩) ∧ Below w2.heap.size Z w')) (by kernel_rfl) ⟨fun _ => rfl, Below.drew (Below.refl _ _)⟩ (fun hHeld => ?_)
          refine introFin2 (X := Ys) 0 #[true, true, true, true, true, true, true, true, true, true, true, true, true, true] (fun x T => (((((((((((((T.setIfInBounds 48 x.v0).setIfInBounds 49 (.pointer (some ⟨w.heap.size, 1, none⟩))).setIfInBounds 50 (.slice (some ⟨ab, ao, none⟩) wt.length c1)).setIfInBounds 51 (.int .i64 ((k : Nat) : Int))).setIfInBounds 52 x.v1).setIfInBounds 53 x.v2).setIfInBounds 54 (.pointer (some ⟨w.heap.size, 1, none⟩))).setIfInBounds 55 (.slice (some ⟨ab, ao, none⟩) wt.length c1)).setIfInBounds 56 (.int .i64 ((k : Nat) : Int))).setIfInBounds 57 (.int .i64 (((k : Nat) : Int) + 1))).setIfInBounds 58 x.v3).setIfInBounds 59 (.slice x.a (wt.length - 1) x.c)).setIfInBounds 60 (.pointer (some ⟨w2.heap.size, 1, none⟩)))) (fun x w' => Below w2.heap.size Z w' ∧ w'.heap[w2.heap.size]? = some (.cells #[.slice b2 (dn.length + 1) d2, .slice x.a (wt.length - 1) x.c, .int .i64 99] 30 (0, 0)) ∧ Row w' Z.heap.size 34 x.a x.c 5 Rq.cs (wt.eraseIdx k) ∧ Row w' w1.heap.size 34 b2 d2 5 Rq.cs (dn ++ [r])) ?_ (fun hfin => ?_)
          rotate_left
          · obtain ⟨wd, hwd, kwd⟩ : ∃ wd, wd = Z.drew ∧ Below Z.heap.size Z wd := ⟨_, rfl, Below.drew (Below.refl _ _)⟩
            rw [← hwd] at hHeld ⊢
            clear hwd
            have sd := kwd.size
            have szd := Lib.hid sd
            refine wpAnyH_take (i := 1) (oi := _) (v := ?_) (by (simp only [List.getElem?_toArray]; rfl)) (by kernel_rfl) (by kernel_rfl) (by kernel_rfl) (by exact fun _ _ _ h => h) (Or.inl ⟨by rfl, ?_⟩) (by assumption) ?_
            rotate_left
            · intro wS hSw
              go_simp
              all_goals first | with_reducible rfl | rw [if_neg (by omega)]
            simp only [Act.put, List.setIfInBounds_toArray, List.set]
            refine wpAnyH_take (i := 2) (oi := _) (v := ?_) (by (simp only [List.getElem?_toArray]; rfl)) (by kernel_rfl) (by kernel_rfl) (by kernel_rfl) (by exact fun _ _ _ h => h) (Or.inl ⟨by rfl, ?_⟩) (by assumption) ?_
            rotate_left
            · intro wS hSw
              go_simp
              all_goals first | with_reducible rfl | rw [if_neg (by omega)]
            simp only [Act.put, List.setIfInBounds_toArray, List.set]
            refine wpAnyH_take (i := 3) (oi := _) (v := ?_) (by (simp only [List.getElem?_toArray]; rfl)) (by kernel_rfl) (by kernel_rfl) (by kernel_rfl) (by exact fun _ _ _ h => h) (Or.inl ⟨by rfl, ?_⟩) (by assumption) ?_
            rotate_left
            · intro wS hSw
              go_simp
              all_goals first | with_reducible rfl | rw [if_neg (by omega)]
            simp only [Act.put, List.setIfInBounds_toArray, List.set]
            refine wpAnyH_take (i := 4) (oi := _) (v := ?_) (by (simp only [List.getElem?_toArray]; rfl)) (by kernel_rfl) (by kernel_rfl) (by kernel_rfl) (by exact fun _ _ _ h => h) (Or.inl ⟨by rfl, ?_⟩) (by assumption) ?_
            rotate_left
            · intro wS hSw
              go_simp
              all_goals first | with_reducible rfl | rw [if_neg (by omega)]
            simp only [Act.put, List.setIfInBounds_toArray, List.set]
            refine wpAnyH_take (i := 6) (oi := _) (v := ?_) (by (simp only [List.getElem?_toArray]; rfl)) (by kernel_rfl) (by kernel_rfl) (by kernel_rfl) (by exact fun _ _ _ h => h) (Or.inl ⟨by rfl, ?_⟩) (by assumption) ?_
            rotate_left
            · intro wS hSw
              go_simp
              all_goals first | with_reducible rfl | rw [if_neg (by omega)]
            simp only [Act.put, List.setIfInBounds_toArray, List.set]
            refine wpAnyH_take (i := 7) (oi := _) (v := ?_) (by (simp only [List.getElem?_toArray]; rfl)) (by kernel_rfl) (by kernel_rfl) (by kernel_rfl) (by exact fun _ _ _ h => h) (Or.inl ⟨by rfl, ?_⟩) (by assumption) ?_
            rotate_left
            · intro wS hSw
              go_simp
              all_goals first | with_reducible rfl | rw [if_neg (by omega)]
            simp only [Act.put, List.setIfInBounds_toArray, List.set]
            refine wpAnyH_take (i := 8) (oi := _) (v := ?_) (by (simp only [List.getElem?_toArray]; rfl)) (by kernel_rfl) (by kernel_rfl) (by kernel_rfl) (by exact fun _ _ _ h => h) (Or.inl ⟨by rfl, ?_⟩) (by assumption) ?_
            rotate_left
            · intro wS hSw
              go_simp
              all_goals first | with_reducible rfl | rw [if_neg (by omega)]
            simp only [Act.put, List.setIfInBounds_toArray, List.set]
            refine wpAnyH_take (i := 9) (oi := _) (v := ?_) (by (simp only [List.getElem?_toArray]; rfl)) (by kernel_rfl) (by kernel_rfl) (by kernel_rfl) (by exact fun _ _ _ h => h) (Or.inl ⟨by rfl, ?_⟩) (by assumption) ?_
            rotate_left
            · intro wS hSw
              go_simp
              all_goals first | with_reducible rfl | rw [if_neg (by omega)]
            simp only [Act.put, List.setIfInBounds_toArray, List.set]
            refine wpAnyH_take (i := 10) (oi := _) (v := ?_) (by (simp only [List.getElem?_toArray]; rfl)) (by kernel_rfl) (by kernel_rfl) (by kernel_rfl) (by exact fun _ _ _ h => h) (Or.inl ⟨by rfl, ?_⟩) (by assumption) ?_
            rotate_left
            · intro wS hSw
              go_simp
              all_goals first | with_reducible rfl | rw [if_neg (by omega)]
            simp only [Act.put, List.setIfInBounds_toArray, List.set]
            refine wpAnyH_ready (rs := [0]) (by kernel_rfl) (by simp) ?_
            refine AllReadyH.cons (o := _) (by (simp only [List.getElem?_toArray]; rfl)) (fun K hK => ?_) AllReadyH.nil
            refine step_build0 (by rfl) (by rfl) eltReq ?_
            obtain ⟨we, hwe, swe, be, kwe⟩ := blocks1 wd (.cells #[] 34)
            rw [← hwe]
            clear hwe
            have ke := Lib.hid (below_next kwd kwe)
            refine hK.out _ _ ⟨fun o => ke.out.cell (p := ⟨w.heap.size, o, none⟩) (by show w.heap.size < Z.heap.size; omega), ke.out.mono (by omega)⟩ (fun hHeld => ?_)
            clear hK K hHeld
            simp only [Act.put, List.setIfInBounds_toArray, List.set]
            refine wpAnyH_ready (rs := [5]) (by kernel_rfl) (by simp) ?_
            refine AllReadyH.cons (o := _) (by (simp only [List.getElem?_toArray]; rfl)) (fun K hK => ?_) AllReadyH.nil
            refine step_append_new Z.heap.size (by rfl) (.tmp 48) (.tmp 52) (by rfl) eltReq (by rfl) (by rfl) ((hrw.out.take k).below (KZ.out.size |> fun _ => ke.out)) (by rw [List.length_take]; omega) (by simp only [maxLen]; omega) (by omega) (by have := ke.out.size; omega) ?_
            intro a8 c8 w8 q8
            have k8 := Lib.hid (below_next ke.out q8.below)
            refine hK.out _ _ ⟨fun o => k8.out.cell (p := ⟨w.heap.size, o, none⟩) (by show w.heap.size < Z.heap.size; omega), k8.out.mono (by omega)⟩ (fun hHeld => ?_)
            clear hK K hHeld
            simp only [Act.put, List.setIfInBounds_toArray, List.set]
            refine wpAnyH_ready (rs := [11]) (by kernel_rfl) (by simp) ?_
            refine AllReadyH.cons (o := _) (by (simp only [List.getElem?_toArray]; rfl)) (fun K hK => ?_) AllReadyH.nil
            refine step_append_elt (by rfl) (.tmp 53) (.tmp 58) (by rfl) (wt.length - 1) eltReq (by rfl) (by rfl) q8.row (ys := wt.drop (k + 1)) ((hrw.out.below k8.out).tail (k + 1) c1 (fun h => by omega)) (by rw [List.length_take]; omega) (by rw [List.length_drop]) (by omega) (by simp only [maxLen]; omega) (by omega) k8.out.size ?_
            intro a9 c9 w9 q9
            have er : wt.take k ++ wt.drop (k + 1) = wt.eraseIdx k := (List.eraseIdx_eq_take_drop_succ wt k).symm
            have r9 := q9.row
            rw [er] at r9
            have k9 : Below Z.heap.size Z w9 := k8.out.grown q9.grown k8.out.size (fun g hg => (q8.row.blk hg).1)
            have dW9 := (k9.block _ s6Z).trans dW
            have R69 := (((R6Z.out.below kwd).below kwe).below q8.below).kept q9.grown (fun g hg e => by have := (R6Z.out.blk hg).2; have := (q8.row.blk e).1; omega)
            refine hK.out _ _ ⟨fun o => k9.cell (p := ⟨w.heap.size, o, none⟩) (by show w.heap.size < Z.heap.size; omega), k9.mono (by omega)⟩ (fun hHeld => ?_)
            clear hK K
            simp only [Act.put, List.setIfInBounds_toArray, List.set]
            refine wpAnyH_take (i := 12) (oi := _) (v := ?_) (by (simp only [List.getElem?_toArray]; rfl)) (by kernel_rfl) (by kernel_rfl) (by kernel_rfl) (by exact fun _ _ _ h => h) (Or.inl ⟨by rfl, ?_⟩) (by assumption) ?_
            rotate_left
            · intro wS hSw
              go_simp
              all_goals first | with_reducible rfl | rw [if_neg (by omega)]
            simp only [Act.put, List.setIfInBounds_toArray, List.set]
            have c9W := cell_of_block dW9
            have f9W := unfrozen_of_block dW9
            refine wpAnyH_ready (rs := [13]) (by kernel_rfl) (by simp) ?_
            refine AllReadyH.cons (o := _) (by (simp only [List.getElem?_toArray]; rfl)) (fun K hK => ?_) AllReadyH.nil
            go_simp
            have kS := (k9.mono (show w2.heap.size ≤ Z.heap.size by omega)).setCell (p := ⟨w2.heap.size, 1, none⟩) (Nat.le_refl _) (.slice a9 (wt.length - 1) c9)
            refine hK.out _ _ ⟨fun o => (by rw [World.cell?_setCell_other (h := by simp <;> omega)] : _ = w9.cell? ⟨w.heap.size, o, none⟩).trans (k9.cell (p := ⟨w.heap.size, o, none⟩) (by show w.heap.size < Z.heap.size; omega)), kS⟩ (fun hHeld => ?_)
            clear hK K hHeld
            refine hfin (Ys.mk ?_ ?_ ?_ ?_ a9 c9) _ _ _ (by kernel_rfl) ?_ ⟨kS, block_setCell (i := 1) dW9 (.slice a9 (wt.length - 1) c9), r9.setOther (by simp <;> omega) _, R69.setNe (fun g hg => by have := (HB2.out g hg).1; simp only; omega) _⟩
            rotate_left 4
            simp only [List.setIfInBounds_toArray, List.set]
            rfl
          rintro ⟨v0, v1, v2, v3, b4, d4⟩ w9 ⟨k9, dW9, r4, r69⟩
          simp only at k9 dW9 r4 r69 ⊢
          simp only [List.setIfInBounds_toArray, List.set]
          refine wpAnyH_done (by kernel_rfl) ?_ _
          clear caW faW laW cbW fbW lbW ccW fcW lcW cdW fdW ldW
          replace aW := (k9.block _ (by omega)).trans aW
          replace bW := (k9.block _ (by omega)).trans bW
          replace cW := (k9.block _ (by omega)).trans cW
          clear dW
          have dW := dW9
          clear dW9
          have K9 := KZ.out.trans (k9.mono (by omega))
          have s9 := k9.size
          have R4 := Lib.hid r4
          have R69 := Lib.hid r69
          clear k9 r4 r69
          have HL8 := Lib.hid (show (wt.eraseIdx k).length = wt.length - 1 by rw [List.length_eraseIdx, if_pos hk])
          have caW := cell_of_block aW
          have faW := unfrozen_of_block aW
          have laW := lt_of_block aW
          have cbW := cell_of_block bW
          have fbW := unfrozen_of_block bW
          have lbW := lt_of_block bW
          have ccW := cell_of_block cW
          have fcW := unfrozen_of_block cW
          have lcW := lt_of_block cW
          have cdW := cell_of_block dW
          have fdW := unfrozen_of_block dW
          have ldW := lt_of_block dW
          go_wp2_with fail
          refine bodyPost_ret (v := .tuple #[.agg #[.slice b2 (dn.length + 1) d2, .slice b4 (wt.length - 1) d4, .int .i64 99], .bool true]) (by simp [results, Try.results23, go_sem, ccW]) rfl ?_
          have hp := keepA_eq (wt' := wt.eraseIdx k) (nb := 99) hA hO HIX.out (by omega) (by rw [if_pos (by omega)]; rfl) (by rw [if_pos ⟨by omega, by omega⟩]; rfl)
          rw [hp]
          unfold RetAS
          simp only [HL6.out, HL8.out]
          refine ⟨b2, d2, b4, d4, rfl, ?_, ?_, (by repeat' (first | with_reducible exact Below.refl _ _ | with_reducible assumption | with_reducible refine Below.alloc ?_ ?_ _ | with_reducible refine Below.drew ?_ | with_reducible refine Below.setCell ?_ ?_ _ | omega | (simp; omega) | (simp; done)))⟩
          · exact (((R69.out.setOther (by first | omega | (simp <;> omega)) _).setOther (by first | omega | (simp <;> omega)) _).setOther (by first | omega | (simp <;> omega)) _).low (by omega)
          · exact (((R4.out.setOther (by first | omega | (simp <;> omega)) _).setOther (by first | omega | (simp <;> omega)) _).setOther (by first | omega | (simp <;> omega)) _).low (by omega)
        · have h99' : bk < 99 := by omega
          have hRA := rowsAt_one w4 r 34
          have RA := Lib.hid hRA
          clear hRA
          go_wp2_with (at_builtin; refine wpList_append_row rfl _ _ rfl (dn.length + 1) eltReq rfl rfl (Row.alloc P0.out (.cells #[.int .i64 r.c, .int .i64 r.n, .int .i64 r.o, .int .i64 r.x, .int .i64 r.y] 34)) RA.out rfl rfl rfl (by simp only [maxLen]; omega) (by omega) (by simp <;> omega) ?_)
          intro b2 d2 w6 q6
          have aW6 := (q6.grown.block _ (by first | omega | (simp <;> omega)) (fun e => by have := HB0.out _ e.symm; omega)).trans ((Below.heap_alloc _ _ _ (by first | omega | (simp <;> omega))).trans aW)
          have bW6 := (q6.grown.block _ (by first | omega | (simp <;> omega)) (fun e => by have := HB0.out _ e.symm; omega)).trans ((Below.heap_alloc _ _ _ (by first | omega | (simp <;> omega))).trans bW)
          have cW6 := (q6.grown.block _ (by first | omega | (simp <;> omega)) (fun e => by have := HB0.out _ e.symm; omega)).trans ((Below.heap_alloc _ _ _ (by first | omega | (simp <;> omega))).trans cW)
          have dW6 := (q6.grown.block _ (by first | omega | (simp <;> omega)) (fun e => by have := HB0.out _ e.symm; omega)).trans ((Below.heap_alloc _ _ _ (by first | omega | (simp <;> omega))).trans dW)
          have s6 := q6.grown.size
          simp only [World.size_alloc] at s6
          have K6 := Lib.hid ((Below.alloc K4 (by first | omega | (simp <;> omega)) (.cells #[.int .i64 r.c, .int .i64 r.n, .int .i64 r.o, .int .i64 r.x, .int .i64 r.y] 34)).grown q6.grown (by first | omega | (simp <;> omega)) (fun g hg => by have := HB0.out g hg; omega))
          have P16 := Lib.hid ((P1.out.alloc (.cells #[.int .i64 r.c, .int .i64 r.n, .int .i64 r.o, .int .i64 r.x, .int .i64 r.y] 34)).kept q6.grown (fun g hg e => AP.out g e hg))
          have hb2 : ∀ g, rowBlk b2 d2 = some g → g ≠ w2.heap.size ∧ w1.heap.size ≤ g := fun g hg => by
            have hlow := (q6.row.blk hg).1
            refine ⟨?_, hlow⟩
            rcases q6.blk with q | q
            · have := (HB0.out g (q ▸ hg)).2; omega
            · rw [hg] at q; injection q with q; rw [World.size_alloc] at q; omega
          have HB2 := Lib.hid hb2
          have R6 := Lib.hid q6.row
          have HL6 := Lib.hid (show (dn ++ [r]).length = dn.length + 1 by simp)
          clear q6 RA hb2
          clear caW faW laW cbW fbW lbW ccW fcW lcW cdW fdW ldW
          clear aW bW cW dW
          have aW := aW6
          have bW := bW6
          have cW := cW6
          have dW := dW6
          clear aW6 bW6 cW6 dW6
          have caW := cell_of_block aW
          have faW := unfrozen_of_block aW
          have laW := lt_of_block aW
          have cbW := cell_of_block bW
          have fbW := unfrozen_of_block bW
          have lbW := lt_of_block bW
          have ccW := cell_of_block cW
          have fcW := unfrozen_of_block cW
          have lcW := lt_of_block cW
          have cdW := cell_of_block dW
          have fdW := unfrozen_of_block dW
          have ldW := lt_of_block dW
          go_wp2_with fail
          obtain ⟨Z, hZ, sZ, dZ, oZ, kZ⟩ := stored1 w6 w2.heap.size 0 (.slice b2 (dn.length + 1) d2) dW
          rw [← hZ]
          have R6Z := Lib.hid (show Row Z w1.heap.size 34 b2 d2 5 Rq.cs (dn ++ [r]) by rw [hZ]; exact R6.out.setNe (fun g hg => by have := (HB2.out g hg).1; simp only; omega) _)
          replace aW := (oZ _ (by omega)).trans aW
          replace bW := (oZ _ (by omega)).trans bW
          replace cW := (oZ _ (by omega)).trans cW
          replace dW : Z.heap[w2.heap.size]? = some (.cells #[.slice b2 (dn.length + 1) d2, .slice b1 wt.length d1, .int .i64 bk] 30 (0, 0)) := dZ
          have KZ := Lib.hid (K6.out.trans (kZ.mono (by omega)))
          clear caW faW laW cbW fbW lbW ccW fcW lcW cdW fdW ldW
          clear hZ oZ kZ dZ
          clear sZ
          have s6Z : w2.heap.size < Z.heap.size := lt_of_block dW
          have caW := cell_of_block aW
          have faW := unfrozen_of_block aW
          have laW := lt_of_block aW
          have cbW := cell_of_block bW
          have fbW := unfrozen_of_block bW
          have lbW := lt_of_block bW
          have ccW := cell_of_block cW
          have fcW := unfrozen_of_block cW
          have lcW := lt_of_block cW
          have cdW := cell_of_block dW
          have fdW := unfrozen_of_block dW
          have ldW := lt_of_block dW
          obtain ⟨ab, ao, ha1, hab, -⟩ := H1.out.bounds.2.2.2 k hk
          subst ha1
          have hlc1 := H1.out.bounds.2.1
          have hmc1 := H1.out.bounds.2.2.1
          unfold maxLen at hmc1
          have g1 : ((k : Nat) : Int) ≤ (c1 : Int) := by omega
          have g2 : ((k : Nat) : Int) + 1 ≤ (wt.length : Int) := by omega
          have g3 : ¬ c1 = 0 := by omega
          have g4 : k + 1 ≤ wt.length := by omega
          have g5 : ((k : Nat) : Int) < (wt.length : Int) := by omega
          have g6 : (wt.length : Int) ≤ (c1 : Int) := by omega
          have g7 : (0 : Int) ≤ ((k : Nat) : Int) + 1 := by omega
          have hrw := Lib.hid (H1.out.rowsAt KZ.out)
          refine wp_region_held_drew (S := fun w' => ((∀ o, w'.cell? ⟨w.heap.size, o, none⟩ = Z.cell? ⟨w.heap.size, o, none⟩) ∧ Below w2.heap.size Z w')) (by kernel_rfl) ⟨fun _ => rfl, Below.drew (Below.refl _ _)⟩ (fun hHeld => ?_)
          refine introFin2 (X := Ys) 0 #[true, true, true, true, true, true, true, true, true, true, true, true, true, true] (fun x T => (((((((((((((T.setIfInBounds 48 x.v0).setIfInBounds 49 (.pointer (some ⟨w.heap.size, 1, none⟩))).setIfInBounds 50 (.slice (some ⟨ab, ao, none⟩) wt.length c1)).setIfInBounds 51 (.int .i64 ((k : Nat) : Int))).setIfInBounds 52 x.v1).setIfInBounds 53 x.v2).setIfInBounds 54 (.pointer (some ⟨w.heap.size, 1, none⟩))).setIfInBounds 55 (.slice (some ⟨ab, ao, none⟩) wt.length c1)).setIfInBounds 56 (.int .i64 ((k : Nat) : Int))).setIfInBounds 57 (.int .i64 (((k : Nat) : Int) + 1))).setIfInBounds 58 x.v3).setIfInBounds 59 (.slice x.a (wt.length - 1) x.c)).setIfInBounds 60 (.pointer (some ⟨w2.heap.size, 1, none⟩)))) (fun x w' => Below w2.heap.size Z w' ∧ w'.heap[w2.heap.size]? = some (.cells #[.slice b2 (dn.length + 1) d2, .slice x.a (wt.length - 1) x.c, .int .i64 bk] 30 (0, 0)) ∧ Row w' Z.heap.size 34 x.a x.c 5 Rq.cs (wt.eraseIdx k) ∧ Row w' w1.heap.size 34 b2 d2 5 Rq.cs (dn ++ [r])) ?_ (fun hfin => ?_)
          rotate_left
          · obtain ⟨wd, hwd, kwd⟩ : ∃ wd, wd = Z.drew ∧ Below Z.heap.size Z wd := ⟨_, rfl, Below.drew (Below.refl _ _)⟩
            rw [← hwd] at hHeld ⊢
            clear hwd
            have sd := kwd.size
            have szd := Lib.hid sd
            refine wpAnyH_take (i := 1) (oi := _) (v := ?_) (by (simp only [List.getElem?_toArray]; rfl)) (by kernel_rfl) (by kernel_rfl) (by kernel_rfl) (by exact fun _ _ _ h => h) (Or.inl ⟨by rfl, ?_⟩) (by assumption) ?_
            rotate_left
            · intro wS hSw
              go_simp
              all_goals first | with_reducible rfl | rw [if_neg (by omega)]
            simp only [Act.put, List.setIfInBounds_toArray, List.set]
            refine wpAnyH_take (i := 2) (oi := _) (v := ?_) (by (simp only [List.getElem?_toArray]; rfl)) (by kernel_rfl) (by kernel_rfl) (by kernel_rfl) (by exact fun _ _ _ h => h) (Or.inl ⟨by rfl, ?_⟩) (by assumption) ?_
            rotate_left
            · intro wS hSw
              go_simp
              all_goals first | with_reducible rfl | rw [if_neg (by omega)]
            simp only [Act.put, List.setIfInBounds_toArray, List.set]
            refine wpAnyH_take (i := 3) (oi := _) (v := ?_) (by (simp only [List.getElem?_toArray]; rfl)) (by kernel_rfl) (by kernel_rfl) (by kernel_rfl) (by exact fun _ _ _ h => h) (Or.inl ⟨by rfl, ?_⟩) (by assumption) ?_
            rotate_left
            · intro wS hSw
              go_simp
              all_goals first | with_reducible rfl | rw [if_neg (by omega)]
            simp only [Act.put, List.setIfInBounds_toArray, List.set]
            refine wpAnyH_take (i := 4) (oi := _) (v := ?_) (by (simp only [List.getElem?_toArray]; rfl)) (by kernel_rfl) (by kernel_rfl) (by kernel_rfl) (by exact fun _ _ _ h => h) (Or.inl ⟨by rfl, ?_⟩) (by assumption) ?_
            rotate_left
            · intro wS hSw
              go_simp
              all_goals first | with_reducible rfl | rw [if_neg (by omega)]
            simp only [Act.put, List.setIfInBounds_toArray, List.set]
            refine wpAnyH_take (i := 6) (oi := _) (v := ?_) (by (simp only [List.getElem?_toArray]; rfl)) (by kernel_rfl) (by kernel_rfl) (by kernel_rfl) (by exact fun _ _ _ h => h) (Or.inl ⟨by rfl, ?_⟩) (by assumption) ?_
            rotate_left
            · intro wS hSw
              go_simp
              all_goals first | with_reducible rfl | rw [if_neg (by omega)]
            simp only [Act.put, List.setIfInBounds_toArray, List.set]
            refine wpAnyH_take (i := 7) (oi := _) (v := ?_) (by (simp only [List.getElem?_toArray]; rfl)) (by kernel_rfl) (by kernel_rfl) (by kernel_rfl) (by exact fun _ _ _ h => h) (Or.inl ⟨by rfl, ?_⟩) (by assumption) ?_
            rotate_left
            · intro wS hSw
              go_simp
              all_goals first | with_reducible rfl | rw [if_neg (by omega)]
            simp only [Act.put, List.setIfInBounds_toArray, List.set]
            refine wpAnyH_take (i := 8) (oi := _) (v := ?_) (by (simp only [List.getElem?_toArray]; rfl)) (by kernel_rfl) (by kernel_rfl) (by kernel_rfl) (by exact fun _ _ _ h => h) (Or.inl ⟨by rfl, ?_⟩) (by assumption) ?_
            rotate_left
            · intro wS hSw
              go_simp
              all_goals first | with_reducible rfl | rw [if_neg (by omega)]
            simp only [Act.put, List.setIfInBounds_toArray, List.set]
            refine wpAnyH_take (i := 9) (oi := _) (v := ?_) (by (simp only [List.getElem?_toArray]; rfl)) (by kernel_rfl) (by kernel_rfl) (by kernel_rfl) (by exact fun _ _ _ h => h) (Or.inl ⟨by rfl, ?_⟩) (by assumption) ?_
            rotate_left
            · intro wS hSw
              go_simp
              all_goals first | with_reducible rfl | rw [if_neg (by omega)]
            simp only [Act.put, List.setIfInBounds_toArray, List.set]
            refine wpAnyH_take (i := 10) (oi := _) (v := ?_) (by (simp only [List.getElem?_toArray]; rfl)) (by kernel_rfl) (by kernel_rfl) (by kernel_rfl) (by exact fun _ _ _ h => h) (Or.inl ⟨by rfl, ?_⟩) (by assumption) ?_
            rotate_left
            · intro wS hSw
              go_simp
              all_goals first | with_reducible rfl | rw [if_neg (by omega)]
            simp only [Act.put, List.setIfInBounds_toArray, List.set]
            refine wpAnyH_ready (rs := [0]) (by kernel_rfl) (by simp) ?_
            refine AllReadyH.cons (o := _) (by (simp only [List.getElem?_toArray]; rfl)) (fun K hK => ?_) AllReadyH.nil
            refine step_build0 (by rfl) (by rfl) eltReq ?_
            obtain ⟨we, hwe, swe, be, kwe⟩ := blocks1 wd (.cells #[] 34)
            rw [← hwe]
            clear hwe
            have ke := Lib.hid (below_next kwd kwe)
            refine hK.out _ _ ⟨fun o => ke.out.cell (p := ⟨w.heap.size, o, none⟩) (by show w.heap.size < Z.heap.size; omega), ke.out.mono (by omega)⟩ (fun hHeld => ?_)
            clear hK K hHeld
            simp only [Act.put, List.setIfInBounds_toArray, List.set]
            refine wpAnyH_ready (rs := [5]) (by kernel_rfl) (by simp) ?_
            refine AllReadyH.cons (o := _) (by (simp only [List.getElem?_toArray]; rfl)) (fun K hK => ?_) AllReadyH.nil
            refine step_append_new Z.heap.size (by rfl) (.tmp 48) (.tmp 52) (by rfl) eltReq (by rfl) (by rfl) ((hrw.out.take k).below (KZ.out.size |> fun _ => ke.out)) (by rw [List.length_take]; omega) (by simp only [maxLen]; omega) (by omega) (by have := ke.out.size; omega) ?_
            intro a8 c8 w8 q8
            have k8 := Lib.hid (below_next ke.out q8.below)
            refine hK.out _ _ ⟨fun o => k8.out.cell (p := ⟨w.heap.size, o, none⟩) (by show w.heap.size < Z.heap.size; omega), k8.out.mono (by omega)⟩ (fun hHeld => ?_)
            clear hK K hHeld
            simp only [Act.put, List.setIfInBounds_toArray, List.set]
            refine wpAnyH_ready (rs := [11]) (by kernel_rfl) (by simp) ?_
            refine AllReadyH.cons (o := _) (by (simp only [List.getElem?_toArray]; rfl)) (fun K hK => ?_) AllReadyH.nil
            refine step_append_elt (by rfl) (.tmp 53) (.tmp 58) (by rfl) (wt.length - 1) eltReq (by rfl) (by rfl) q8.row (ys := wt.drop (k + 1)) ((hrw.out.below k8.out).tail (k + 1) c1 (fun h => by omega)) (by rw [List.length_take]; omega) (by rw [List.length_drop]) (by omega) (by simp only [maxLen]; omega) (by omega) k8.out.size ?_
            intro a9 c9 w9 q9
            have er : wt.take k ++ wt.drop (k + 1) = wt.eraseIdx k := (List.eraseIdx_eq_take_drop_succ wt k).symm
            have r9 := q9.row
            rw [er] at r9
            have k9 : Below Z.heap.size Z w9 := k8.out.grown q9.grown k8.out.size (fun g hg => (q8.row.blk hg).1)
            have dW9 := (k9.block _ s6Z).trans dW
            have R69 := (((R6Z.out.below kwd).below kwe).below q8.below).kept q9.grown (fun g hg e => by have := (R6Z.out.blk hg).2; have := (q8.row.blk e).1; omega)
            refine hK.out _ _ ⟨fun o => k9.cell (p := ⟨w.heap.size, o, none⟩) (by show w.heap.size < Z.heap.size; omega), k9.mono (by omega)⟩ (fun hHeld => ?_)
            clear hK K
            simp only [Act.put, List.setIfInBounds_toArray, List.set]
            refine wpAnyH_take (i := 12) (oi := _) (v := ?_) (by (simp only [List.getElem?_toArray]; rfl)) (by kernel_rfl) (by kernel_rfl) (by kernel_rfl) (by exact fun _ _ _ h => h) (Or.inl ⟨by rfl, ?_⟩) (by assumption) ?_
            rotate_left
            · intro wS hSw
              go_simp
              all_goals first | with_reducible rfl | rw [if_neg (by omega)]
            simp only [Act.put, List.setIfInBounds_toArray, List.set]
            have c9W := cell_of_block dW9
            have f9W := unfrozen_of_block dW9
            refine wpAnyH_ready (rs := [13]) (by kernel_rfl) (by simp) ?_
            refine AllReadyH.cons (o := _) (by (simp only [List.getElem?_toArray]; rfl)) (fun K hK => ?_) AllReadyH.nil
            go_simp
            have kS := (k9.mono (show w2.heap.size ≤ Z.heap.size by omega)).setCell (p := ⟨w2.heap.size, 1, none⟩) (Nat.le_refl _) (.slice a9 (wt.length - 1) c9)
            refine hK.out _ _ ⟨fun o => (by rw [World.cell?_setCell_other (h := by simp <;> omega)] : _ = w9.cell? ⟨w.heap.size, o, none⟩).trans (k9.cell (p := ⟨w.heap.size, o, none⟩) (by show w.heap.size < Z.heap.size; omega)), kS⟩ (fun hHeld => ?_)
            clear hK K hHeld
            refine hfin (Ys.mk ?_ ?_ ?_ ?_ a9 c9) _ _ _ (by kernel_rfl) ?_ ⟨kS, block_setCell (i := 1) dW9 (.slice a9 (wt.length - 1) c9), r9.setOther (by simp <;> omega) _, R69.setNe (fun g hg => by have := (HB2.out g hg).1; simp only; omega) _⟩
            rotate_left 4
            simp only [List.setIfInBounds_toArray, List.set]
            rfl
          rintro ⟨v0, v1, v2, v3, b4, d4⟩ w9 ⟨k9, dW9, r4, r69⟩
          simp only at k9 dW9 r4 r69 ⊢
          simp only [List.setIfInBounds_toArray, List.set]
          refine wpAnyH_done (by kernel_rfl) ?_ _
          clear caW faW laW cbW fbW lbW ccW fcW lcW cdW fdW ldW
          replace aW := (k9.block _ (by omega)).trans aW
          replace bW := (k9.block _ (by omega)).trans bW
          replace cW := (k9.block _ (by omega)).trans cW
          clear dW
          have dW := dW9
          clear dW9
          have K9 := KZ.out.trans (k9.mono (by omega))
          have s9 := k9.size
          have R4 := Lib.hid r4
          have R69 := Lib.hid r69
          clear k9 r4 r69
          have HL8 := Lib.hid (show (wt.eraseIdx k).length = wt.length - 1 by rw [List.length_eraseIdx, if_pos hk])
          have caW := cell_of_block aW
          have faW := unfrozen_of_block aW
          have laW := lt_of_block aW
          have cbW := cell_of_block bW
          have fbW := unfrozen_of_block bW
          have lbW := lt_of_block bW
          have ccW := cell_of_block cW
          have fcW := unfrozen_of_block cW
          have lcW := lt_of_block cW
          have cdW := cell_of_block dW
          have fdW := unfrozen_of_block dW
          have ldW := lt_of_block dW
          have hb1' : IntKind.i64.wrap (bk + 1) = bk + 1 := IntWalk.i64_in _ ⟨by omega, by omega⟩
          go_wp2_with fail
          refine bodyPost_ret (v := .tuple #[.agg #[.slice b2 (dn.length + 1) d2, .slice b4 (wt.length - 1) d4, .int .i64 (bk + 1)], .bool true]) (by simp [results, Try.results23, go_sem, ccW]) rfl ?_
          have hp := keepA_eq (wt' := wt.eraseIdx k) (nb := (bk + 1)) hA hO HIX.out (by omega) (by rw [if_pos (by omega)]; rfl) (by rw [if_pos ⟨by omega, by omega⟩, if_pos (by omega)])
          rw [hp]
          unfold RetAS
          simp only [HL6.out, HL8.out]
          refine ⟨b2, d2, b4, d4, rfl, ?_, ?_, (by repeat' (first | with_reducible exact Below.refl _ _ | with_reducible assumption | with_reducible refine Below.alloc ?_ ?_ _ | with_reducible refine Below.drew ?_ | with_reducible refine Below.setCell ?_ ?_ _ | omega | (simp; omega) | (simp; done)))⟩
          · exact ((((R69.out.setNe (fun g hg => by have := (HB2.out g hg).1; simp only; omega) _).setOther (by first | omega | (simp <;> omega)) _).setOther (by first | omega | (simp <;> omega)) _).setOther (by first | omega | (simp <;> omega)) _).low (by omega)
          · exact ((((R4.out.setOther (by first | omega | (simp <;> omega)) _).setOther (by first | omega | (simp <;> omega)) _).setOther (by first | omega | (simp <;> omega)) _).setOther (by first | omega | (simp <;> omega)) _).low (by omega)
  | false =>
    go_wp2_with fail
    refine (l1None_c r.c r.n r.o r.x r.y w4).mono ?_
    rintro e w5 ⟨rfl, k5⟩
    have s5 := k5.size
    clear caW faW laW cbW fbW lbW ccW fcW lcW cdW fdW ldW
    replace aW := carryB k5 (by omega) aW
    replace bW := carryB k5 (by omega) bW
    replace cW := carryB k5 (by omega) cW
    replace dW := carryB k5 (by omega) dW
    have K5 := below_next K4 k5
    have PA0 := Lib.hid (P0.out.below k5)
    have PA1 := Lib.hid (P1.out.below k5)
    clear k5 K4 P0 P1
    have caW := cell_of_block aW
    have faW := unfrozen_of_block aW
    have laW := lt_of_block aW
    have cbW := cell_of_block bW
    have fbW := unfrozen_of_block bW
    have lbW := lt_of_block bW
    have ccW := cell_of_block cW
    have fcW := unfrozen_of_block cW
    have lcW := lt_of_block cW
    have cdW := cell_of_block dW
    have fdW := unfrozen_of_block dW
    have ldW := lt_of_block dW
    cases hN : noneB r.c r.n r.o r.x r.y with
    | false =>
      have hO : good r = false := by unfold good goodB; rw [hK, show eqR r.c r.n r.o r.x r.y 0 0 0 0 0 = false from hN]; rfl
      have hp : keepA ⟨dn, wt, bk⟩ r = (⟨dn, wt, bk⟩, false) := by unfold keepA; rw [if_pos hA, hO]; rfl
      go_wp2_with fail
      refine bodyPost_ret (v := .tuple #[.agg #[.slice b0 dn.length d0, .slice b1 wt.length d1, .int .i64 bk], .bool false]) (by simp [results, Try.results23, go_sem, ccW]) rfl ?_
      try rw [hp]
      exact ⟨b0, d0, b1, d1, rfl, (((PA0.out.setOther (by first | omega | (simp <;> omega)) _).setOther (by first | omega | (simp <;> omega)) _).setOther (by first | omega | (simp <;> omega)) _).low (by omega), (((PA1.out.setOther (by first | omega | (simp <;> omega)) _).setOther (by first | omega | (simp <;> omega)) _).setOther (by first | omega | (simp <;> omega)) _).low (by omega), (by repeat' (first | with_reducible exact Below.refl _ _ | with_reducible assumption | with_reducible refine Below.alloc ?_ ?_ _ | with_reducible refine Below.drew ?_ | with_reducible refine Below.setCell ?_ ?_ _ | omega | (simp; omega) | (simp; done)))⟩
    | true =>
      have hO : good r = true := by unfold good goodB; rw [show eqR r.c r.n r.o r.x r.y 0 0 0 0 0 = true from hN]; rfl
      rcases HX.out with hix | ⟨k, hix, hk⟩
      · subst hix
        by_cases h6 : dn.length + wt.length = 60
        · have hp : keepA ⟨dn, wt, bk⟩ r = (⟨dn, wt, bk⟩, false) := by unfold keepA; rw [if_pos hA, hO, HIX.out]; simp [h6]
          have h60' : (60 : Int) ≤ ((dn.length : Int) + (wt.length : Int)) := by omega
          go_wp2_with fail
          refine bodyPost_ret (v := .tuple #[.agg #[.slice b0 dn.length d0, .slice b1 wt.length d1, .int .i64 bk], .bool false]) (by simp [results, Try.results23, go_sem, ccW]) rfl ?_
          try rw [hp]
          exact ⟨b0, d0, b1, d1, rfl, (((PA0.out.setOther (by first | omega | (simp <;> omega)) _).setOther (by first | omega | (simp <;> omega)) _).setOther (by first | omega | (simp <;> omega)) _).low (by omega), (((PA1.out.setOther (by first | omega | (simp <;> omega)) _).setOther (by first | omega | (simp <;> omega)) _).setOther (by first | omega | (simp <;> omega)) _).low (by omega), (by repeat' (first | with_reducible exact Below.refl _ _ | with_reducible assumption | with_reducible refine Below.alloc ?_ ?_ _ | with_reducible refine Below.drew ?_ | with_reducible refine Below.setCell ?_ ?_ _ | omega | (simp; omega) | (simp; done)))⟩
        · have h60' : ¬ (60 : Int) ≤ ((dn.length : Int) + (wt.length : Int)) := by omega
          have H6 := Lib.hid h6
          clear h6
          by_cases hw0 : wt.length = 0
          · have hw0' : ¬ (0 : Int) < (wt.length : Int) := by omega
            have HW0 := Lib.hid hw0
            clear hw0
            have hRA := rowsAt_one w5 r 34
            have RA := Lib.hid hRA
            clear hRA
            go_wp2_with (at_builtin; refine wpList_append_row rfl _ _ rfl (dn.length + 1) eltReq rfl rfl (Row.alloc PA0.out (.cells #[.int .i64 r.c, .int .i64 r.n, .int .i64 r.o, .int .i64 r.x, .int .i64 r.y] 34)) RA.out rfl rfl rfl (by simp only [maxLen]; omega) (by omega) (by simp <;> omega) ?_)
            intro b2 d2 w6 q6
            have aW6 := (q6.grown.block _ (by first | omega | (simp <;> omega)) (fun e => by have := HB0.out _ e.symm; omega)).trans ((Below.heap_alloc _ _ _ (by first | omega | (simp <;> omega))).trans aW)
            have bW6 := (q6.grown.block _ (by first | omega | (simp <;> omega)) (fun e => by have := HB0.out _ e.symm; omega)).trans ((Below.heap_alloc _ _ _ (by first | omega | (simp <;> omega))).trans bW)
            have cW6 := (q6.grown.block _ (by first | omega | (simp <;> omega)) (fun e => by have := HB0.out _ e.symm; omega)).trans ((Below.heap_alloc _ _ _ (by first | omega | (simp <;> omega))).trans cW)
            have dW6 := (q6.grown.block _ (by first | omega | (simp <;> omega)) (fun e => by have := HB0.out _ e.symm; omega)).trans ((Below.heap_alloc _ _ _ (by first | omega | (simp <;> omega))).trans dW)
            have s6 := q6.grown.size
            simp only [World.size_alloc] at s6
            have K6 := Lib.hid ((Below.alloc K5 (by first | omega | (simp <;> omega)) (.cells #[.int .i64 r.c, .int .i64 r.n, .int .i64 r.o, .int .i64 r.x, .int .i64 r.y] 34)).grown q6.grown (by first | omega | (simp <;> omega)) (fun g hg => by have := HB0.out g hg; omega))
            have P16 := Lib.hid ((PA1.out.alloc (.cells #[.int .i64 r.c, .int .i64 r.n, .int .i64 r.o, .int .i64 r.x, .int .i64 r.y] 34)).kept q6.grown (fun g hg e => AP.out g e hg))
            have hb2 : ∀ g, rowBlk b2 d2 = some g → g ≠ w2.heap.size ∧ w1.heap.size ≤ g := fun g hg => by
              have hlow := (q6.row.blk hg).1
              refine ⟨?_, hlow⟩
              rcases q6.blk with q | q
              · have := (HB0.out g (q ▸ hg)).2; omega
              · rw [hg] at q; injection q with q; rw [World.size_alloc] at q; omega
            have HB2 := Lib.hid hb2
            have R6 := Lib.hid q6.row
            have HL6 := Lib.hid (show (dn ++ [r]).length = dn.length + 1 by simp)
            clear q6 RA hb2
            clear caW faW laW cbW fbW lbW ccW fcW lcW cdW fdW ldW
            clear aW bW cW dW
            have aW := aW6
            have bW := bW6
            have cW := cW6
            have dW := dW6
            clear aW6 bW6 cW6 dW6
            have caW := cell_of_block aW
            have faW := unfrozen_of_block aW
            have laW := lt_of_block aW
            have cbW := cell_of_block bW
            have fbW := unfrozen_of_block bW
            have lbW := lt_of_block bW
            have ccW := cell_of_block cW
            have fcW := unfrozen_of_block cW
            have lcW := lt_of_block cW
            have cdW := cell_of_block dW
            have fdW := unfrozen_of_block dW
            have ldW := lt_of_block dW
            go_wp2_with fail
            refine bodyPost_ret (v := .tuple #[.agg #[.slice b2 (dn.length + 1) d2, .slice b1 wt.length d1, .int .i64 bk], .bool true]) (by simp [results, Try.results23, go_sem, ccW]) rfl ?_
            have hp := keepA_eq (wt' := wt) (nb := bk) hA hO HIX.out (by have := H6.out; omega) (by rw [if_neg (by omega)]) (by rw [if_neg (by have := HW0.out; omega)])
            rw [hp]
            unfold RetAS
            simp only [HL6.out]
            have K6' := K6.out
            refine ⟨b2, d2, b1, d1, rfl, ?_, ?_, (by repeat' (first | with_reducible exact Below.refl _ _ | with_reducible assumption | with_reducible refine Below.alloc ?_ ?_ _ | with_reducible refine Below.drew ?_ | with_reducible refine Below.setCell ?_ ?_ _ | omega | (simp; omega) | (simp; done)))⟩
            · exact ((((R6.out.setNe (fun g hg => by have := (HB2.out g hg).1; simp only; omega) _).setOther (by first | omega | (simp <;> omega)) _).setOther (by first | omega | (simp <;> omega)) _).setOther (by first | omega | (simp <;> omega)) _).low (by omega)
            · exact ((((P16.out.setNe (fun g hg => by have := (HB1.out g hg).2; simp only; omega) _).setOther (by first | omega | (simp <;> omega)) _).setOther (by first | omega | (simp <;> omega)) _).setOther (by first | omega | (simp <;> omega)) _).low (by omega)
          · have hw0' : (0 : Int) < (wt.length : Int) := by omega
            by_cases h99 : bk = 99
            · subst h99
              have hRA := rowsAt_one w5 r 34
              have RA := Lib.hid hRA
              clear hRA
              go_wp2_with (at_builtin; refine wpList_append_row rfl _ _ rfl (dn.length + 1) eltReq rfl rfl (Row.alloc PA0.out (.cells #[.int .i64 r.c, .int .i64 r.n, .int .i64 r.o, .int .i64 r.x, .int .i64 r.y] 34)) RA.out rfl rfl rfl (by simp only [maxLen]; omega) (by omega) (by simp <;> omega) ?_)
              intro b2 d2 w6 q6
              have aW6 := (q6.grown.block _ (by first | omega | (simp <;> omega)) (fun e => by have := HB0.out _ e.symm; omega)).trans ((Below.heap_alloc _ _ _ (by first | omega | (simp <;> omega))).trans aW)
              have bW6 := (q6.grown.block _ (by first | omega | (simp <;> omega)) (fun e => by have := HB0.out _ e.symm; omega)).trans ((Below.heap_alloc _ _ _ (by first | omega | (simp <;> omega))).trans bW)
              have cW6 := (q6.grown.block _ (by first | omega | (simp <;> omega)) (fun e => by have := HB0.out _ e.symm; omega)).trans ((Below.heap_alloc _ _ _ (by first | omega | (simp <;> omega))).trans cW)
              have dW6 := (q6.grown.block _ (by first | omega | (simp <;> omega)) (fun e => by have := HB0.out _ e.symm; omega)).trans ((Below.heap_alloc _ _ _ (by first | omega | (simp <;> omega))).trans dW)
              have s6 := q6.grown.size
              simp only [World.size_alloc] at s6
              have K6 := Lib.hid ((Below.alloc K5 (by first | omega | (simp <;> omega)) (.cells #[.int .i64 r.c, .int .i64 r.n, .int .i64 r.o, .int .i64 r.x, .int .i64 r.y] 34)).grown q6.grown (by first | omega | (simp <;> omega)) (fun g hg => by have := HB0.out g hg; omega))
              have P16 := Lib.hid ((PA1.out.alloc (.cells #[.int .i64 r.c, .int .i64 r.n, .int .i64 r.o, .int .i64 r.x, .int .i64 r.y] 34)).kept q6.grown (fun g hg e => AP.out g e hg))
              have hb2 : ∀ g, rowBlk b2 d2 = some g → g ≠ w2.heap.size ∧ w1.heap.size ≤ g := fun g hg => by
                have hlow := (q6.row.blk hg).1
                refine ⟨?_, hlow⟩
                rcases q6.blk with q | q
                · have := (HB0.out g (q ▸ hg)).2; omega
                · rw [hg] at q; injection q with q; rw [World.size_alloc] at q; omega
              have HB2 := Lib.hid hb2
              have R6 := Lib.hid q6.row
              have HL6 := Lib.hid (show (dn ++ [r]).length = dn.length + 1 by simp)
              clear q6 RA hb2
              clear caW faW laW cbW fbW lbW ccW fcW lcW cdW fdW ldW
              clear aW bW cW dW
              have aW := aW6
              have bW := bW6
              have cW := cW6
              have dW := dW6
              clear aW6 bW6 cW6 dW6
              have caW := cell_of_block aW
              have faW := unfrozen_of_block aW
              have laW := lt_of_block aW
              have cbW := cell_of_block bW
              have fbW := unfrozen_of_block bW
              have lbW := lt_of_block bW
              have ccW := cell_of_block cW
              have fcW := unfrozen_of_block cW
              have lcW := lt_of_block cW
              have cdW := cell_of_block dW
              have fdW := unfrozen_of_block dW
              have ldW := lt_of_block dW
              go_wp2_with fail
              refine bodyPost_ret (v := .tuple #[.agg #[.slice b2 (dn.length + 1) d2, .slice b1 wt.length d1, .int .i64 99], .bool true]) (by simp [results, Try.results23, go_sem, ccW]) rfl ?_
              have hp := keepA_eq (wt' := wt) (nb := 99) hA hO HIX.out (by have := H6.out; omega) (by rw [if_neg (by omega)]) (by rw [if_pos ⟨by omega, by omega⟩]; rfl)
              rw [hp]
              unfold RetAS
              simp only [HL6.out]
              have K6' := K6.out
              refine ⟨b2, d2, b1, d1, rfl, ?_, ?_, (by repeat' (first | with_reducible exact Below.refl _ _ | with_reducible assumption | with_reducible refine Below.alloc ?_ ?_ _ | with_reducible refine Below.drew ?_ | with_reducible refine Below.setCell ?_ ?_ _ | omega | (simp; omega) | (simp; done)))⟩
              · exact ((((R6.out.setNe (fun g hg => by have := (HB2.out g hg).1; simp only; omega) _).setOther (by first | omega | (simp <;> omega)) _).setOther (by first | omega | (simp <;> omega)) _).setOther (by first | omega | (simp <;> omega)) _).low (by omega)
              · exact ((((P16.out.setNe (fun g hg => by have := (HB1.out g hg).2; simp only; omega) _).setOther (by first | omega | (simp <;> omega)) _).setOther (by first | omega | (simp <;> omega)) _).setOther (by first | omega | (simp <;> omega)) _).low (by omega)
            · have h99' : bk < 99 := by omega
              have hRA := rowsAt_one w5 r 34
              have RA := Lib.hid hRA
              clear hRA
              go_wp2_with (at_builtin; refine wpList_append_row rfl _ _ rfl (dn.length + 1) eltReq rfl rfl (Row.alloc PA0.out (.cells #[.int .i64 r.c, .int .i64 r.n, .int .i64 r.o, .int .i64 r.x, .int .i64 r.y] 34)) RA.out rfl rfl rfl (by simp only [maxLen]; omega) (by omega) (by simp <;> omega) ?_)
              intro b2 d2 w6 q6
              have aW6 := (q6.grown.block _ (by first | omega | (simp <;> omega)) (fun e => by have := HB0.out _ e.symm; omega)).trans ((Below.heap_alloc _ _ _ (by first | omega | (simp <;> omega))).trans aW)
              have bW6 := (q6.grown.block _ (by first | omega | (simp <;> omega)) (fun e => by have := HB0.out _ e.symm; omega)).trans ((Below.heap_alloc _ _ _ (by first | omega | (simp <;> omega))).trans bW)
              have cW6 := (q6.grown.block _ (by first | omega | (simp <;> omega)) (fun e => by have := HB0.out _ e.symm; omega)).trans ((Below.heap_alloc _ _ _ (by first | omega | (simp <;> omega))).trans cW)
              have dW6 := (q6.grown.block _ (by first | omega | (simp <;> omega)) (fun e => by have := HB0.out _ e.symm; omega)).trans ((Below.heap_alloc _ _ _ (by first | omega | (simp <;> omega))).trans dW)
              have s6 := q6.grown.size
              simp only [World.size_alloc] at s6
              have K6 := Lib.hid ((Below.alloc K5 (by first | omega | (simp <;> omega)) (.cells #[.int .i64 r.c, .int .i64 r.n, .int .i64 r.o, .int .i64 r.x, .int .i64 r.y] 34)).grown q6.grown (by first | omega | (simp <;> omega)) (fun g hg => by have := HB0.out g hg; omega))
              have P16 := Lib.hid ((PA1.out.alloc (.cells #[.int .i64 r.c, .int .i64 r.n, .int .i64 r.o, .int .i64 r.x, .int .i64 r.y] 34)).kept q6.grown (fun g hg e => AP.out g e hg))
              have hb2 : ∀ g, rowBlk b2 d2 = some g → g ≠ w2.heap.size ∧ w1.heap.size ≤ g := fun g hg => by
                have hlow := (q6.row.blk hg).1
                refine ⟨?_, hlow⟩
                rcases q6.blk with q | q
                · have := (HB0.out g (q ▸ hg)).2; omega
                · rw [hg] at q; injection q with q; rw [World.size_alloc] at q; omega
              have HB2 := Lib.hid hb2
              have R6 := Lib.hid q6.row
              have HL6 := Lib.hid (show (dn ++ [r]).length = dn.length + 1 by simp)
              clear q6 RA hb2
              clear caW faW laW cbW fbW lbW ccW fcW lcW cdW fdW ldW
              clear aW bW cW dW
              have aW := aW6
              have bW := bW6
              have cW := cW6
              have dW := dW6
              clear aW6 bW6 cW6 dW6
              have caW := cell_of_block aW
              have faW := unfrozen_of_block aW
              have laW := lt_of_block aW
              have cbW := cell_of_block bW
              have fbW := unfrozen_of_block bW
              have lbW := lt_of_block bW
              have ccW := cell_of_block cW
              have fcW := unfrozen_of_block cW
              have lcW := lt_of_block cW
              have cdW := cell_of_block dW
              have fdW := unfrozen_of_block dW
              have ldW := lt_of_block dW
              have hb1' : IntKind.i64.wrap (bk + 1) = bk + 1 := IntWalk.i64_in _ ⟨by omega, by omega⟩
              go_wp2_with fail
              refine bodyPost_ret (v := .tuple #[.agg #[.slice b2 (dn.length + 1) d2, .slice b1 wt.length d1, .int .i64 (bk + 1)], .bool true]) (by simp [results, Try.results23, go_sem, ccW]) rfl ?_
              have hp := keepA_eq (wt' := wt) (nb := (bk + 1)) hA hO HIX.out (by have := H6.out; omega) (by rw [if_neg (by omega)]) (by rw [if_pos ⟨by omega, by omega⟩, if_pos (by omega)])
              rw [hp]
              unfold RetAS
              simp only [HL6.out]
              have K6' := K6.out
              refine ⟨b2, d2, b1, d1, rfl, ?_, ?_, (by repeat' (first | with_reducible exact Below.refl _ _ | with_reducible assumption | with_reducible refine Below.alloc ?_ ?_ _ | with_reducible refine Below.drew ?_ | with_reducible refine Below.setCell ?_ ?_ _ | omega | (simp; omega) | (simp; done)))⟩
              · exact (((((R6.out.setNe (fun g hg => by have := (HB2.out g hg).1; simp only; omega) _).setNe (fun g hg => by have := (HB2.out g hg).1; simp only; omega) _).setOther (by first | omega | (simp <;> omega)) _).setOther (by first | omega | (simp <;> omega)) _).setOther (by first | omega | (simp <;> omega)) _).low (by omega)
              · exact (((((P16.out.setNe (fun g hg => by have := (HB1.out g hg).2; simp only; omega) _).setNe (fun g hg => by have := (HB1.out g hg).2; simp only; omega) _).setOther (by first | omega | (simp <;> omega)) _).setOther (by first | omega | (simp <;> omega)) _).setOther (by first | omega | (simp <;> omega)) _).low (by omega)
      · subst hix
        have hx0 : ¬ ((k : Nat) : Int) < 0 := by omega
        have hx1 : (0 : Int) ≤ ((k : Nat) : Int) := by omega
        have hw0' : (0 : Int) < (wt.length : Int) := by omega
        by_cases hk0 : k = 0
        · subst hk0
          have hRA := rowsAt_one w5 r 34
          have RA := Lib.hid hRA
          clear hRA
          go_wp2_with (at_builtin; refine wpList_append_row rfl _ _ rfl (dn.length + 1) eltReq rfl rfl (Row.alloc PA0.out (.cells #[.int .i64 r.c, .int .i64 r.n, .int .i64 r.o, .int .i64 r.x, .int .i64 r.y] 34)) RA.out rfl rfl rfl (by simp only [maxLen]; omega) (by omega) (by simp <;> omega) ?_)
          intro b2 d2 w6 q6
          have aW6 := (q6.grown.block _ (by first | omega | (simp <;> omega)) (fun e => by have := HB0.out _ e.symm; omega)).trans ((Below.heap_alloc _ _ _ (by first | omega | (simp <;> omega))).trans aW)
          have bW6 := (q6.grown.block _ (by first | omega | (simp <;> omega)) (fun e => by have := HB0.out _ e.symm; omega)).trans ((Below.heap_alloc _ _ _ (by first | omega | (simp <;> omega))).trans bW)
          have cW6 := (q6.grown.block _ (by first | omega | (simp <;> omega)) (fun e => by have := HB0.out _ e.symm; omega)).trans ((Below.heap_alloc _ _ _ (by first | omega | (simp <;> omega))).trans cW)
          have dW6 := (q6.grown.block _ (by first | omega | (simp <;> omega)) (fun e => by have := HB0.out _ e.symm; omega)).trans ((Below.heap_alloc _ _ _ (by first | omega | (simp <;> omega))).trans dW)
          have s6 := q6.grown.size
          simp only [World.size_alloc] at s6
          have K6 := Lib.hid ((Below.alloc K5 (by first | omega | (simp <;> omega)) (.cells #[.int .i64 r.c, .int .i64 r.n, .int .i64 r.o, .int .i64 r.x, .int .i64 r.y] 34)).grown q6.grown (by first | omega | (simp <;> omega)) (fun g hg => by have := HB0.out g hg; omega))
          have P16 := Lib.hid ((PA1.out.alloc (.cells #[.int .i64 r.c, .int .i64 r.n, .int .i64 r.o, .int .i64 r.x, .int .i64 r.y] 34)).kept q6.grown (fun g hg e => AP.out g e hg))
          have hb2 : ∀ g, rowBlk b2 d2 = some g → g ≠ w2.heap.size ∧ w1.heap.size ≤ g := fun g hg => by
            have hlow := (q6.row.blk hg).1
            refine ⟨?_, hlow⟩
            rcases q6.blk with q | q
            · have := (HB0.out g (q ▸ hg)).2; omega
            · rw [hg] at q; injection q with q; rw [World.size_alloc] at q; omega
          have HB2 := Lib.hid hb2
          have R6 := Lib.hid q6.row
          have HL6 := Lib.hid (show (dn ++ [r]).length = dn.length + 1 by simp)
          clear q6 RA hb2
          clear caW faW laW cbW fbW lbW ccW fcW lcW cdW fdW ldW
          clear aW bW cW dW
          have aW := aW6
          have bW := bW6
          have cW := cW6
          have dW := dW6
          clear aW6 bW6 cW6 dW6
          have caW := cell_of_block aW
          have faW := unfrozen_of_block aW
          have laW := lt_of_block aW
          have cbW := cell_of_block bW
          have fbW := unfrozen_of_block bW
          have lbW := lt_of_block bW
          have ccW := cell_of_block cW
          have fcW := unfrozen_of_block cW
          have lcW := lt_of_block cW
          have cdW := cell_of_block dW
          have fdW := unfrozen_of_block dW
          have ldW := lt_of_block dW
          go_wp2_with fail
          obtain ⟨Z, hZ, sZ, dZ, oZ, kZ⟩ := stored1 w6 w2.heap.size 0 (.slice b2 (dn.length + 1) d2) dW
          rw [← hZ]
          have R6Z := Lib.hid (show Row Z w1.heap.size 34 b2 d2 5 Rq.cs (dn ++ [r]) by rw [hZ]; exact R6.out.setNe (fun g hg => by have := (HB2.out g hg).1; simp only; omega) _)
          replace aW := (oZ _ (by omega)).trans aW
          replace bW := (oZ _ (by omega)).trans bW
          replace cW := (oZ _ (by omega)).trans cW
          replace dW : Z.heap[w2.heap.size]? = some (.cells #[.slice b2 (dn.length + 1) d2, .slice b1 wt.length d1, .int .i64 bk] 30 (0, 0)) := dZ
          have KZ := Lib.hid (K6.out.trans (kZ.mono (by omega)))
          clear caW faW laW cbW fbW lbW ccW fcW lcW cdW fdW ldW
          clear hZ oZ kZ dZ
          clear sZ
          have s6Z : w2.heap.size < Z.heap.size := lt_of_block dW
          have caW := cell_of_block aW
          have faW := unfrozen_of_block aW
          have laW := lt_of_block aW
          have cbW := cell_of_block bW
          have fbW := unfrozen_of_block bW
          have lbW := lt_of_block bW
          have ccW := cell_of_block cW
          have fcW := unfrozen_of_block cW
          have lcW := lt_of_block cW
          have cdW := cell_of_block dW
          have fdW := unfrozen_of_block dW
          have ldW := lt_of_block dW
          obtain ⟨ab, ao, ha1, hab, -⟩ := H1.out.bounds.2.2.2 0 hk
          subst ha1
          have hlc1 := H1.out.bounds.2.1
          have hmc1 := H1.out.bounds.2.2.1
          unfold maxLen at hmc1
          have g1 : ((0 : Nat) : Int) ≤ (c1 : Int) := by omega
          have g2 : ((0 : Nat) : Int) + 1 ≤ (wt.length : Int) := by omega
          have g3 : ¬ c1 = 0 := by omega
          have g4 : 0 + 1 ≤ wt.length := by omega
          have g5 : ((0 : Nat) : Int) < (wt.length : Int) := by omega
          have g6 : (wt.length : Int) ≤ (c1 : Int) := by omega
          have g7 : IntKind.i64.wrap 1 = 1 := by decide
          have g8 : (1 : Int) ≤ (wt.length : Int) := by omega
          have hrw := Lib.hid (H1.out.rowsAt KZ.out)
          refine wp_region_held_drew (S := fun w' => ((∀ o, w'.cell? ⟨w.heap.size, o, none⟩ = Z.cell? ⟨w.heap.size, o, none⟩) ∧ Below w2.heap.size Z w')) (by kernel_rfl) ⟨fun _ => rfl, Below.drew (Below.refl _ _)⟩ (fun hHeld => ?_)
          refine introFin2 (X := Ys) 0 #[true, true, true, true, true, true, true, true, true, true, true, true, true, true] (fun x T => (((((((((((((T.setIfInBounds 48 x.v0).setIfInBounds 49 (.pointer (some ⟨w.heap.size, 1, none⟩))).setIfInBounds 50 (.slice (some ⟨ab, ao, none⟩) wt.length c1)).setIfInBounds 51 (.int .i64 0)).setIfInBounds 52 x.v1).setIfInBounds 53 x.v2).setIfInBounds 54 (.pointer (some ⟨w.heap.size, 1, none⟩))).setIfInBounds 55 (.slice (some ⟨ab, ao, none⟩) wt.length c1)).setIfInBounds 56 (.int .i64 0)).setIfInBounds 57 (.int .i64 1)).setIfInBounds 58 x.v3).setIfInBounds 59 (.slice x.a (wt.length - 1) x.c)).setIfInBounds 60 (.pointer (some ⟨w2.heap.size, 1, none⟩)))) (fun x w' => Below w2.heap.size Z w' ∧ w'.heap[w2.heap.size]? = some (.cells #[.slice b2 (dn.length + 1) d2, .slice x.a (wt.length - 1) x.c, .int .i64 bk] 30 (0, 0)) ∧ Row w' Z.heap.size 34 x.a x.c 5 Rq.cs (wt.eraseIdx 0) ∧ Row w' w1.heap.size 34 b2 d2 5 Rq.cs (dn ++ [r])) ?_ (fun hfin => ?_)
          rotate_left
          · obtain ⟨wd, hwd, kwd⟩ : ∃ wd, wd = Z.drew ∧ Below Z.heap.size Z wd := ⟨_, rfl, Below.drew (Below.refl _ _)⟩
            rw [← hwd] at hHeld ⊢
            clear hwd
            have sd := kwd.size
            have szd := Lib.hid sd
            refine wpAnyH_take (i := 1) (oi := _) (v := ?_) (by (simp only [List.getElem?_toArray]; rfl)) (by kernel_rfl) (by kernel_rfl) (by kernel_rfl) (by exact fun _ _ _ h => h) (Or.inl ⟨by rfl, ?_⟩) (by assumption) ?_
            rotate_left
            · intro wS hSw
              go_simp
              all_goals first | with_reducible rfl | rw [if_neg (by omega)]
            simp only [Act.put, List.setIfInBounds_toArray, List.set]
            refine wpAnyH_take (i := 2) (oi := _) (v := ?_) (by (simp only [List.getElem?_toArray]; rfl)) (by kernel_rfl) (by kernel_rfl) (by kernel_rfl) (by exact fun _ _ _ h => h) (Or.inl ⟨by rfl, ?_⟩) (by assumption) ?_
            rotate_left
            · intro wS hSw
              go_simp
              all_goals first | with_reducible rfl | rw [if_neg (by omega)]
            simp only [Act.put, List.setIfInBounds_toArray, List.set]
            refine wpAnyH_take (i := 3) (oi := _) (v := ?_) (by (simp only [List.getElem?_toArray]; rfl)) (by kernel_rfl) (by kernel_rfl) (by kernel_rfl) (by exact fun _ _ _ h => h) (Or.inl ⟨by rfl, ?_⟩) (by assumption) ?_
            rotate_left
            · intro wS hSw
              go_simp
              all_goals first | with_reducible rfl | rw [if_neg (by omega)]
            simp only [Act.put, List.setIfInBounds_toArray, List.set]
            refine wpAnyH_take (i := 4) (oi := _) (v := ?_) (by (simp only [List.getElem?_toArray]; rfl)) (by kernel_rfl) (by kernel_rfl) (by kernel_rfl) (by exact fun _ _ _ h => h) (Or.inl ⟨by rfl, ?_⟩) (by assumption) ?_
            rotate_left
            · intro wS hSw
              go_simp
              all_goals first | with_reducible rfl | rw [if_neg (by omega)]
            simp only [Act.put, List.setIfInBounds_toArray, List.set]
            refine wpAnyH_take (i := 6) (oi := _) (v := ?_) (by (simp only [List.getElem?_toArray]; rfl)) (by kernel_rfl) (by kernel_rfl) (by kernel_rfl) (by exact fun _ _ _ h => h) (Or.inl ⟨by rfl, ?_⟩) (by assumption) ?_
            rotate_left
            · intro wS hSw
              go_simp
              all_goals first | with_reducible rfl | rw [if_neg (by omega)]
            simp only [Act.put, List.setIfInBounds_toArray, List.set]
            refine wpAnyH_take (i := 7) (oi := _) (v := ?_) (by (simp only [List.getElem?_toArray]; rfl)) (by kernel_rfl) (by kernel_rfl) (by kernel_rfl) (by exact fun _ _ _ h => h) (Or.inl ⟨by rfl, ?_⟩) (by assumption) ?_
            rotate_left
            · intro wS hSw
              go_simp
              all_goals first | with_reducible rfl | rw [if_neg (by omega)]
            simp only [Act.put, List.setIfInBounds_toArray, List.set]
            refine wpAnyH_take (i := 8) (oi := _) (v := ?_) (by (simp only [List.getElem?_toArray]; rfl)) (by kernel_rfl) (by kernel_rfl) (by kernel_rfl) (by exact fun _ _ _ h => h) (Or.inl ⟨by rfl, ?_⟩) (by assumption) ?_
            rotate_left
            · intro wS hSw
              go_simp
              all_goals first | with_reducible rfl | rw [if_neg (by omega)]
            simp only [Act.put, List.setIfInBounds_toArray, List.set]
            refine wpAnyH_take (i := 9) (oi := _) (v := ?_) (by (simp only [List.getElem?_toArray]; rfl)) (by kernel_rfl) (by kernel_rfl) (by kernel_rfl) (by exact fun _ _ _ h => h) (Or.inl ⟨by rfl, ?_⟩) (by assumption) ?_
            rotate_left
            · intro wS hSw
              go_simp
              all_goals first | with_reducible rfl | rw [if_neg (by omega)]
            simp only [Act.put, List.setIfInBounds_toArray, List.set]
            refine wpAnyH_take (i := 10) (oi := _) (v := ?_) (by (simp only [List.getElem?_toArray]; rfl)) (by kernel_rfl) (by kernel_rfl) (by kernel_rfl) (by exact fun _ _ _ h => h) (Or.inl ⟨by rfl, ?_⟩) (by assumption) ?_
            rotate_left
            · intro wS hSw
              go_simp
              all_goals first | with_reducible rfl | rw [if_neg (by omega)]
            simp only [Act.put, List.setIfInBounds_toArray, List.set]
            refine wpAnyH_ready (rs := [0]) (by kernel_rfl) (by simp) ?_
            refine AllReadyH.cons (o := _) (by (simp only [List.getElem?_toArray]; rfl)) (fun K hK => ?_) AllReadyH.nil
            refine step_build0 (by rfl) (by rfl) eltReq ?_
            obtain ⟨we, hwe, swe, be, kwe⟩ := blocks1 wd (.cells #[] 34)
            rw [← hwe]
            clear hwe
            have ke := Lib.hid (below_next kwd kwe)
            refine hK.out _ _ ⟨fun o => ke.out.cell (p := ⟨w.heap.size, o, none⟩) (by show w.heap.size < Z.heap.size; omega), ke.out.mono (by omega)⟩ (fun hHeld => ?_)
            clear hK K hHeld
            simp only [Act.put, List.setIfInBounds_toArray, List.set]
            refine wpAnyH_ready (rs := [5]) (by kernel_rfl) (by simp) ?_
            refine AllReadyH.cons (o := _) (by (simp only [List.getElem?_toArray]; rfl)) (fun K hK => ?_) AllReadyH.nil
            refine step_append_new Z.heap.size (by rfl) (.tmp 48) (.tmp 52) (by rfl) eltReq (by rfl) (by rfl) ((hrw.out.take 0).below (KZ.out.size |> fun _ => ke.out)) (by rw [List.length_take]; omega) (by simp only [maxLen]; omega) (by omega) (by have := ke.out.size; omega) ?_
            intro a8 c8 w8 q8
            have k8 := Lib.hid (below_next ke.out q8.below)
            refine hK.out _ _ ⟨fun o => k8.out.cell (p := ⟨w.heap.size, o, none⟩) (by show w.heap.size < Z.heap.size; omega), k8.out.mono (by omega)⟩ (fun hHeld => ?_)
            clear hK K hHeld
            simp only [Act.put, List.setIfInBounds_toArray, List.set]
            refine wpAnyH_ready (rs := [11]) (by kernel_rfl) (by simp) ?_
            refine AllReadyH.cons (o := _) (by (simp only [List.getElem?_toArray]; rfl)) (fun K hK => ?_) AllReadyH.nil
            refine step_append_elt (by rfl) (.tmp 53) (.tmp 58) (by rfl) (wt.length - 1) eltReq (by rfl) (by rfl) q8.row (ys := wt.drop (0 + 1)) ((hrw.out.below k8.out).tail (0 + 1) c1 (fun h => by omega)) (by rw [List.length_take]; omega) (by rw [List.length_drop]) (by omega) (by simp only [maxLen]; omega) (by omega) k8.out.size ?_
            intro a9 c9 w9 q9
            have er : wt.take 0 ++ wt.drop (0 + 1) = wt.eraseIdx 0 := (List.eraseIdx_eq_take_drop_succ wt 0).symm
            have r9 := q9.row
            rw [er] at r9
            have k9 : Below Z.heap.size Z w9 := k8.out.grown q9.grown k8.out.size (fun g hg => (q8.row.blk hg).1)
            have dW9 := (k9.block _ s6Z).trans dW
            have R69 := (((R6Z.out.below kwd).below kwe).below q8.below).kept q9.grown (fun g hg e => by have := (R6Z.out.blk hg).2; have := (q8.row.blk e).1; omega)
            refine hK.out _ _ ⟨fun o => k9.cell (p := ⟨w.heap.size, o, none⟩) (by show w.heap.size < Z.heap.size; omega), k9.mono (by omega)⟩ (fun hHeld => ?_)
            clear hK K
            simp only [Act.put, List.setIfInBounds_toArray, List.set]
            refine wpAnyH_take (i := 12) (oi := _) (v := ?_) (by (simp only [List.getElem?_toArray]; rfl)) (by kernel_rfl) (by kernel_rfl) (by kernel_rfl) (by exact fun _ _ _ h => h) (Or.inl ⟨by rfl, ?_⟩) (by assumption) ?_
            rotate_left
            · intro wS hSw
              go_simp
              all_goals first | with_reducible rfl | rw [if_neg (by omega)]
            simp only [Act.put, List.setIfInBounds_toArray, List.set]
            have c9W := cell_of_block dW9
            have f9W := unfrozen_of_block dW9
            refine wpAnyH_ready (rs := [13]) (by kernel_rfl) (by simp) ?_
            refine AllReadyH.cons (o := _) (by (simp only [List.getElem?_toArray]; rfl)) (fun K hK => ?_) AllReadyH.nil
            go_simp
            have kS := (k9.mono (show w2.heap.size ≤ Z.heap.size by omega)).setCell (p := ⟨w2.heap.size, 1, none⟩) (Nat.le_refl _) (.slice a9 (wt.length - 1) c9)
            refine hK.out _ _ ⟨fun o => (by rw [World.cell?_setCell_other (h := by simp <;> omega)] : _ = w9.cell? ⟨w.heap.size, o, none⟩).trans (k9.cell (p := ⟨w.heap.size, o, none⟩) (by show w.heap.size < Z.heap.size; omega)), kS⟩ (fun hHeld => ?_)
            clear hK K hHeld
            refine hfin (Ys.mk ?_ ?_ ?_ ?_ a9 c9) _ _ _ (by kernel_rfl) ?_ ⟨kS, block_setCell (i := 1) dW9 (.slice a9 (wt.length - 1) c9), r9.setOther (by simp <;> omega) _, R69.setNe (fun g hg => by have := (HB2.out g hg).1; simp only; omega) _⟩
            rotate_left 4
            simp only [List.setIfInBounds_toArray, List.set]
            rfl
          rintro ⟨v0, v1, v2, v3, b4, d4⟩ w9 ⟨k9, dW9, r4, r69⟩
          simp only at k9 dW9 r4 r69 ⊢
          simp only [List.setIfInBounds_toArray, List.set]
          refine wpAnyH_done (by kernel_rfl) ?_ _
          clear caW faW laW cbW fbW lbW ccW fcW lcW cdW fdW ldW
          replace aW := (k9.block _ (by omega)).trans aW
          replace bW := (k9.block _ (by omega)).trans bW
          replace cW := (k9.block _ (by omega)).trans cW
          clear dW
          have dW := dW9
          clear dW9
          have K9 := KZ.out.trans (k9.mono (by omega))
          have s9 := k9.size
          have R4 := Lib.hid r4
          have R69 := Lib.hid r69
          clear k9 r4 r69
          have HL8 := Lib.hid (show (wt.eraseIdx 0).length = wt.length - 1 by rw [List.length_eraseIdx, if_pos hk])
          have caW := cell_of_block aW
          have faW := unfrozen_of_block aW
          have laW := lt_of_block aW
          have cbW := cell_of_block bW
          have fbW := unfrozen_of_block bW
          have lbW := lt_of_block bW
          have ccW := cell_of_block cW
          have fcW := unfrozen_of_block cW
          have lcW := lt_of_block cW
          have cdW := cell_of_block dW
          have fdW := unfrozen_of_block dW
          have ldW := lt_of_block dW
          go_wp2_with fail
          refine bodyPost_ret (v := .tuple #[.agg #[.slice b2 (dn.length + 1) d2, .slice b4 (wt.length - 1) d4, .int .i64 bk], .bool true]) (by simp [results, Try.results23, go_sem, ccW]) rfl ?_
          have hp := keepA_eq (wt' := wt.eraseIdx 0) (nb := bk) hA hO HIX.out (by omega) (by rw [if_pos (by omega)]; rfl) (by rw [if_neg (by omega)])
          rw [hp]
          unfold RetAS
          simp only [HL6.out, HL8.out]
          refine ⟨b2, d2, b4, d4, rfl, ?_, ?_, (by repeat' (first | with_reducible exact Below.refl _ _ | with_reducible assumption | with_reducible refine Below.alloc ?_ ?_ _ | with_reducible refine Below.drew ?_ | with_reducible refine Below.setCell ?_ ?_ _ | omega | (simp; omega) | (simp; done)))⟩
          · exact (((R69.out.setOther (by first | omega | (simp <;> omega)) _).setOther (by first | omega | (simp <;> omega)) _).setOther (by first | omega | (simp <;> omega)) _).low (by omega)
          · exact (((R4.out.setOther (by first | omega | (simp <;> omega)) _).setOther (by first | omega | (simp <;> omega)) _).setOther (by first | omega | (simp <;> omega)) _).low (by omega)
        · have hk0' : ¬ ((k : Nat) : Int) = 0 := by omega
          have hwk : IntKind.i64.wrap ((k : Int) + 1) = (k : Int) + 1 := IntWalk.i64_in _ ⟨by omega, by omega⟩
          by_cases h99 : bk = 99
          · subst h99
            have hRA := rowsAt_one w5 r 34
            have RA := Lib.hid hRA
            clear hRA
            go_wp2_with (at_builtin; refine wpList_append_row rfl _ _ rfl (dn.length + 1) eltReq rfl rfl (Row.alloc PA0.out (.cells #[.int .i64 r.c, .int .i64 r.n, .int .i64 r.o, .int .i64 r.x, .int .i64 r.y] 34)) RA.out rfl rfl rfl (by simp only [maxLen]; omega) (by omega) (by simp <;> omega) ?_)
            intro b2 d2 w6 q6
            have aW6 := (q6.grown.block _ (by first | omega | (simp <;> omega)) (fun e => by have := HB0.out _ e.symm; omega)).trans ((Below.heap_alloc _ _ _ (by first | omega | (simp <;> omega))).trans aW)
            have bW6 := (q6.grown.block _ (by first | omega | (simp <;> omega)) (fun e => by have := HB0.out _ e.symm; omega)).trans ((Below.heap_alloc _ _ _ (by first | omega | (simp <;> omega))).trans bW)
            have cW6 := (q6.grown.block _ (by first | omega | (simp <;> omega)) (fun e => by have := HB0.out _ e.symm; omega)).trans ((Below.heap_alloc _ _ _ (by first | omega | (simp <;> omega))).trans cW)
            have dW6 := (q6.grown.block _ (by first | omega | (simp <;> omega)) (fun e => by have := HB0.out _ e.symm; omega)).trans ((Below.heap_alloc _ _ _ (by first | omega | (simp <;> omega))).trans dW)
            have s6 := q6.grown.size
            simp only [World.size_alloc] at s6
            have K6 := Lib.hid ((Below.alloc K5 (by first | omega | (simp <;> omega)) (.cells #[.int .i64 r.c, .int .i64 r.n, .int .i64 r.o, .int .i64 r.x, .int .i64 r.y] 34)).grown q6.grown (by first | omega | (simp <;> omega)) (fun g hg => by have := HB0.out g hg; omega))
            have P16 := Lib.hid ((PA1.out.alloc (.cells #[.int .i64 r.c, .int .i64 r.n, .int .i64 r.o, .int .i64 r.x, .int .i64 r.y] 34)).kept q6.grown (fun g hg e => AP.out g e hg))
            have hb2 : ∀ g, rowBlk b2 d2 = some g → g ≠ w2.heap.size ∧ w1.heap.size ≤ g := fun g hg => by
              have hlow := (q6.row.blk hg).1
              refine ⟨?_, hlow⟩
              rcases q6.blk with q | q
              · have := (HB0.out g (q ▸ hg)).2; omega
              · rw [hg] at q; injection q with q; rw [World.size_alloc] at q; omega
            have HB2 := Lib.hid hb2
            have R6 := Lib.hid q6.row
            have HL6 := Lib.hid (show (dn ++ [r]).length = dn.length + 1 by simp)
            clear q6 RA hb2
            clear caW faW laW cbW fbW lbW ccW fcW lcW cdW fdW ldW
            clear aW bW cW dW
            have aW := aW6
            have bW := bW6
            have cW := cW6
            have dW := dW6
            clear aW6 bW6 cW6 dW6
            have caW := cell_of_block aW
            have faW := unfrozen_of_block aW
            have laW := lt_of_block aW
            have cbW := cell_of_block bW
            have fbW := unfrozen_of_block bW
            have lbW := lt_of_block bW
            have ccW := cell_of_block cW
            have fcW := unfrozen_of_block cW
            have lcW := lt_of_block cW
            have cdW := cell_of_block dW
            have fdW := unfrozen_of_block dW
            have ldW := lt_of_block dW
            go_wp2_with fail
            obtain ⟨Z, hZ, sZ, dZ, oZ, kZ⟩ := stored1 w6 w2.heap.size 0 (.slice b2 (dn.length + 1) d2) dW
            rw [← hZ]
            have R6Z := Lib.hid (show Row Z w1.heap.size 34 b2 d2 5 Rq.cs (dn ++ [r]) by rw [hZ]; exact R6.out.setNe (fun g hg => by have := (HB2.out g hg).1; simp only; omega) _)
            replace aW := (oZ _ (by omega)).trans aW
            replace bW := (oZ _ (by omega)).trans bW
            replace cW := (oZ _ (by omega)).trans cW
            replace dW : Z.heap[w2.heap.size]? = some (.cells #[.slice b2 (dn.length + 1) d2, .slice b1 wt.length d1, .int .i64 99] 30 (0, 0)) := dZ
            have KZ := Lib.hid (K6.out.trans (kZ.mono (by omega)))
            clear caW faW laW cbW fbW lbW ccW fcW lcW cdW fdW ldW
            clear hZ oZ kZ dZ
            clear sZ
            have s6Z : w2.heap.size < Z.heap.size := lt_of_block dW
            have caW := cell_of_block aW
            have faW := unfrozen_of_block aW
            have laW := lt_of_block aW
            have cbW := cell_of_block bW
            have fbW := unfrozen_of_block bW
            have lbW := lt_of_block bW
            have ccW := cell_of_block cW
            have fcW := unfrozen_of_block cW
            have lcW := lt_of_block cW
            have cdW := cell_of_block dW
            have fdW := unfrozen_of_block dW
            have ldW := lt_of_block dW
            obtain ⟨ab, ao, ha1, hab, -⟩ := H1.out.bounds.2.2.2 k hk
            subst ha1
            have hlc1 := H1.out.bounds.2.1
            have hmc1 := H1.out.bounds.2.2.1
            unfold maxLen at hmc1
            have g1 : ((k : Nat) : Int) ≤ (c1 : Int) := by omega
            have g2 : ((k : Nat) : Int) + 1 ≤ (wt.length : Int) := by omega
            have g3 : ¬ c1 = 0 := by omega
            have g4 : k + 1 ≤ wt.length := by omega
            have g5 : ((k : Nat) : Int) < (wt.length : Int) := by omega
            have g6 : (wt.length : Int) ≤ (c1 : Int) := by omega
            have g7 : (0 : Int) ≤ ((k : Nat) : Int) + 1 := by omega
            have hrw := Lib.hid (H1.out.rowsAt KZ.out)
            refine wp_region_held_drew (S := fun w' => ((∀ o, w'.cell? ⟨w.heap.size, o, none⟩ = Z.cell? ⟨w.heap.size, o, none⟩) ∧ Below w2.heap.size Z w')) (by kernel_rfl) ⟨fun _ => rfl, Below.drew (Below.refl _ _)⟩ (fun hHeld => ?_)
            refine introFin2 (X := Ys) 0 #[true, true, true, true, true, true, true, true, true, true, true, true, true, true] (fun x T => (((((((((((((T.setIfInBounds 48 x.v0).setIfInBounds 49 (.pointer (some ⟨w.heap.size, 1, none⟩))).setIfInBounds 50 (.slice (some ⟨ab, ao, none⟩) wt.length c1)).setIfInBounds 51 (.int .i64 ((k : Nat) : Int))).setIfInBounds 52 x.v1).setIfInBounds 53 x.v2).setIfInBounds 54 (.pointer (some ⟨w.heap.size, 1, none⟩))).setIfInBounds 55 (.slice (some ⟨ab, ao, none⟩) wt.length c1)).setIfInBounds 56 (.int .i64 ((k : Nat) : Int))).setIfInBounds 57 (.int .i64 (((k : Nat) : Int) + 1))).setIfInBounds 58 x.v3).setIfInBounds 59 (.slice x.a (wt.length - 1) x.c)).setIfInBounds 60 (.pointer (some ⟨w2.heap.size, 1, none⟩)))) (fun x w' => Below w2.heap.size Z w' ∧ w'.heap[w2.heap.size]? = some (.cells #[.slice b2 (dn.length + 1) d2, .slice x.a (wt.length - 1) x.c, .int .i64 99] 30 (0, 0)) ∧ Row w' Z.heap.size 34 x.a x.c 5 Rq.cs (wt.eraseIdx k) ∧ Row w' w1.heap.size 34 b2 d2 5 Rq.cs (dn ++ [r])) ?_ (fun hfin => ?_)
            rotate_left
            · obtain ⟨wd, hwd, kwd⟩ : ∃ wd, wd = Z.drew ∧ Below Z.heap.size Z wd := ⟨_, rfl, Below.drew (Below.refl _ _)⟩
              rw [← hwd] at hHeld ⊢
              clear hwd
              have sd := kwd.size
              have szd := Lib.hid sd
              refine wpAnyH_take (i := 1) (oi := _) (v := ?_) (by (simp only [List.getElem?_toArray]; rfl)) (by kernel_rfl) (by kernel_rfl) (by kernel_rfl) (by exact fun _ _ _ h => h) (Or.inl ⟨by rfl, ?_⟩) (by assumption) ?_
              rotate_left
              · intro wS hSw
                go_simp
                all_goals first | with_reducible rfl | rw [if_neg (by omega)]
              simp only [Act.put, List.setIfInBounds_toArray, List.set]
              refine wpAnyH_take (i := 2) (oi := _) (v := ?_) (by (simp only [List.getElem?_toArray]; rfl)) (by kernel_rfl) (by kernel_rfl) (by kernel_rfl) (by exact fun _ _ _ h => h) (Or.inl ⟨by rfl, ?_⟩) (by assumption) ?_
              rotate_left
              · intro wS hSw
                go_simp
                all_goals first | with_reducible rfl | rw [if_neg (by omega)]
              simp only [Act.put, List.setIfInBounds_toArray, List.set]
              refine wpAnyH_take (i := 3) (oi := _) (v := ?_) (by (simp only [List.getElem?_toArray]; rfl)) (by kernel_rfl) (by kernel_rfl) (by kernel_rfl) (by exact fun _ _ _ h => h) (Or.inl ⟨by rfl, ?_⟩) (by assumption) ?_
              rotate_left
              · intro wS hSw
                go_simp
                all_goals first | with_reducible rfl | rw [if_neg (by omega)]
              simp only [Act.put, List.setIfInBounds_toArray, List.set]
              refine wpAnyH_take (i := 4) (oi := _) (v := ?_) (by (simp only [List.getElem?_toArray]; rfl)) (by kernel_rfl) (by kernel_rfl) (by kernel_rfl) (by exact fun _ _ _ h => h) (Or.inl ⟨by rfl, ?_⟩) (by assumption) ?_
              rotate_left
              · intro wS hSw
                go_simp
                all_goals first | with_reducible rfl | rw [if_neg (by omega)]
              simp only [Act.put, List.setIfInBounds_toArray, List.set]
              refine wpAnyH_take (i := 6) (oi := _) (v := ?_) (by (simp only [List.getElem?_toArray]; rfl)) (by kernel_rfl) (by kernel_rfl) (by kernel_rfl) (by exact fun _ _ _ h => h) (Or.inl ⟨by rfl, ?_⟩) (by assumption) ?_
              rotate_left
              · intro wS hSw
                go_simp
                all_goals first | with_reducible rfl | rw [if_neg (by omega)]
              simp only [Act.put, List.setIfInBounds_toArray, List.set]
              refine wpAnyH_take (i := 7) (oi := _) (v := ?_) (by (simp only [List.getElem?_toArray]; rfl)) (by kernel_rfl) (by kernel_rfl) (by kernel_rfl) (by exact fun _ _ _ h => h) (Or.inl ⟨by rfl, ?_⟩) (by assumption) ?_
              rotate_left
              · intro wS hSw
                go_simp
                all_goals first | with_reducible rfl | rw [if_neg (by omega)]
              simp only [Act.put, List.setIfInBounds_toArray, List.set]
              refine wpAnyH_take (i := 8) (oi := _) (v := ?_) (by (simp only [List.getElem?_toArray]; rfl)) (by kernel_rfl) (by kernel_rfl) (by kernel_rfl) (by exact fun _ _ _ h => h) (Or.inl ⟨by rfl, ?_⟩) (by assumption) ?_
              rotate_left
              · intro wS hSw
                go_simp
                all_goals first | with_reducible rfl | rw [if_neg (by omega)]
              simp only [Act.put, List.setIfInBounds_toArray, List.set]
              refine wpAnyH_take (i := 9) (oi := _) (v := ?_) (by (simp only [List.getElem?_toArray]; rfl)) (by kernel_rfl) (by kernel_rfl) (by kernel_rfl) (by exact fun _ _ _ h => h) (Or.inl ⟨by rfl, ?_⟩) (by assumption) ?_
              rotate_left
              · intro wS hSw
                go_simp
                all_goals first | with_reducible rfl | rw [if_neg (by omega)]
              simp only [Act.put, List.setIfInBounds_toArray, List.set]
              refine wpAnyH_take (i := 10) (oi := _) (v := ?_) (by (simp only [List.getElem?_toArray]; rfl)) (by kernel_rfl) (by kernel_rfl) (by kernel_rfl) (by exact fun _ _ _ h => h) (Or.inl ⟨by rfl, ?_⟩) (by assumption) ?_
              rotate_left
              · intro wS hSw
                go_simp
                all_goals first | with_reducible rfl | rw [if_neg (by omega)]
              simp only [Act.put, List.setIfInBounds_toArray, List.set]
              refine wpAnyH_ready (rs := [0]) (by kernel_rfl) (by simp) ?_
              refine AllReadyH.cons (o := _) (by (simp only [List.getElem?_toArray]; rfl)) (fun K hK => ?_) AllReadyH.nil
              refine step_build0 (by rfl) (by rfl) eltReq ?_
              obtain ⟨we, hwe, swe, be, kwe⟩ := blocks1 wd (.cells #[] 34)
              rw [← hwe]
              clear hwe
              have ke := Lib.hid (below_next kwd kwe)
              refine hK.out _ _ ⟨fun o => ke.out.cell (p := ⟨w.heap.size, o, none⟩) (by show w.heap.size < Z.heap.size; omega), ke.out.mono (by omega)⟩ (fun hHeld => ?_)
              clear hK K hHeld
              simp only [Act.put, List.setIfInBounds_toArray, List.set]
              refine wpAnyH_ready (rs := [5]) (by kernel_rfl) (by simp) ?_
              refine AllReadyH.cons (o := _) (by (simp only [List.getElem?_toArray]; rfl)) (fun K hK => ?_) AllReadyH.nil
              refine step_append_new Z.heap.size (by rfl) (.tmp 48) (.tmp 52) (by rfl) eltReq (by rfl) (by rfl) ((hrw.out.take k).below (KZ.out.size |> fun _ => ke.out)) (by rw [List.length_take]; omega) (by simp only [maxLen]; omega) (by omega) (by have := ke.out.size; omega) ?_
              intro a8 c8 w8 q8
              have k8 := Lib.hid (below_next ke.out q8.below)
              refine hK.out _ _ ⟨fun o => k8.out.cell (p := ⟨w.heap.size, o, none⟩) (by show w.heap.size < Z.heap.size; omega), k8.out.mono (by omega)⟩ (fun hHeld => ?_)
              clear hK K hHeld
              simp only [Act.put, List.setIfInBounds_toArray, List.set]
              refine wpAnyH_ready (rs := [11]) (by kernel_rfl) (by simp) ?_
              refine AllReadyH.cons (o := _) (by (simp only [List.getElem?_toArray]; rfl)) (fun K hK => ?_) AllReadyH.nil
              refine step_append_elt (by rfl) (.tmp 53) (.tmp 58) (by rfl) (wt.length - 1) eltReq (by rfl) (by rfl) q8.row (ys := wt.drop (k + 1)) ((hrw.out.below k8.out).tail (k + 1) c1 (fun h => by omega)) (by rw [List.length_take]; omega) (by rw [List.length_drop]) (by omega) (by simp only [maxLen]; omega) (by omega) k8.out.size ?_
              intro a9 c9 w9 q9
              have er : wt.take k ++ wt.drop (k + 1) = wt.eraseIdx k := (List.eraseIdx_eq_take_drop_succ wt k).symm
              have r9 := q9.row
              rw [er] at r9
              have k9 : Below Z.heap.size Z w9 := k8.out.grown q9.grown k8.out.size (fun g hg => (q8.row.blk hg).1)
              have dW9 := (k9.block _ s6Z).trans dW
              have R69 := (((R6Z.out.below kwd).below kwe).below q8.below).kept q9.grown (fun g hg e => by have := (R6Z.out.blk hg).2; have := (q8.row.blk e).1; omega)
              refine hK.out _ _ ⟨fun o => k9.cell (p := ⟨w.heap.size, o, none⟩) (by show w.heap.size < Z.heap.size; omega), k9.mono (by omega)⟩ (fun hHeld => ?_)
              clear hK K
              simp only [Act.put, List.setIfInBounds_toArray, List.set]
              refine wpAnyH_take (i := 12) (oi := _) (v := ?_) (by (simp only [List.getElem?_toArray]; rfl)) (by kernel_rfl) (by kernel_rfl) (by kernel_rfl) (by exact fun _ _ _ h => h) (Or.inl ⟨by rfl, ?_⟩) (by assumption) ?_
              rotate_left
              · intro wS hSw
                go_simp
                all_goals first | with_reducible rfl | rw [if_neg (by omega)]
              simp only [Act.put, List.setIfInBounds_toArray, List.set]
              have c9W := cell_of_block dW9
              have f9W := unfrozen_of_block dW9
              refine wpAnyH_ready (rs := [13]) (by kernel_rfl) (by simp) ?_
              refine AllReadyH.cons (o := _) (by (simp only [List.getElem?_toArray]; rfl)) (fun K hK => ?_) AllReadyH.nil
              go_simp
              have kS := (k9.mono (show w2.heap.size ≤ Z.heap.size by omega)).setCell (p := ⟨w2.heap.size, 1, none⟩) (Nat.le_refl _) (.slice a9 (wt.length - 1) c9)
              refine hK.out _ _ ⟨fun o => (by rw [World.cell?_setCell_other (h := by simp <;> omega)] : _ = w9.cell? ⟨w.heap.size, o, none⟩).trans (k9.cell (p := ⟨w.heap.size, o, none⟩) (by show w.heap.size < Z.heap.size; omega)), kS⟩ (fun hHeld => ?_)
              clear hK K hHeld
              refine hfin (Ys.mk ?_ ?_ ?_ ?_ a9 c9) _ _ _ (by kernel_rfl) ?_ ⟨kS, block_setCell (i := 1) dW9 (.slice a9 (wt.length - 1) c9), r9.setOther (by simp <;> omega) _, R69.setNe (fun g hg => by have := (HB2.out g hg).1; simp only; omega) _⟩
              rotate_left 4
              simp only [List.setIfInBounds_toArray, List.set]
              rfl
            rintro ⟨v0, v1, v2, v3, b4, d4⟩ w9 ⟨k9, dW9, r4, r69⟩
            simp only at k9 dW9 r4 r69 ⊢
            simp only [List.setIfInBounds_toArray, List.set]
            refine wpAnyH_done (by kernel_rfl) ?_ _
            clear caW faW laW cbW fbW lbW ccW fcW lcW cdW fdW ldW
            replace aW := (k9.block _ (by omega)).trans aW
            replace bW := (k9.block _ (by omega)).trans bW
            replace cW := (k9.block _ (by omega)).trans cW
            clear dW
            have dW := dW9
            clear dW9
            have K9 := KZ.out.trans (k9.mono (by omega))
            have s9 := k9.size
            have R4 := Lib.hid r4
            have R69 := Lib.hid r69
            clear k9 r4 r69
            have HL8 := Lib.hid (show (wt.eraseIdx k).length = wt.length - 1 by rw [List.length_eraseIdx, if_pos hk])
            have caW := cell_of_block aW
            have faW := unfrozen_of_block aW
            have laW := lt_of_block aW
            have cbW := cell_of_block bW
            have fbW := unfrozen_of_block bW
            have lbW := lt_of_block bW
            have ccW := cell_of_block cW
            have fcW := unfrozen_of_block cW
            have lcW := lt_of_block cW
            have cdW := cell_of_block dW
            have fdW := unfrozen_of_block dW
            have ldW := lt_of_block dW
            go_wp2_with fail
            refine bodyPost_ret (v := .tuple #[.agg #[.slice b2 (dn.length + 1) d2, .slice b4 (wt.length - 1) d4, .int .i64 99], .bool true]) (by simp [results, Try.results23, go_sem, ccW]) rfl ?_
            have hp := keepA_eq (wt' := wt.eraseIdx k) (nb := 99) hA hO HIX.out (by omega) (by rw [if_pos (by omega)]; rfl) (by rw [if_pos ⟨by omega, by omega⟩]; rfl)
            rw [hp]
            unfold RetAS
            simp only [HL6.out, HL8.out]
            refine ⟨b2, d2, b4, d4, rfl, ?_, ?_, (by repeat' (first | with_reducible exact Below.refl _ _ | with_reducible assumption | with_reducible refine Below.alloc ?_ ?_ _ | with_reducible refine Below.drew ?_ | with_reducible refine Below.setCell ?_ ?_ _ | omega | (simp; omega) | (simp; done)))⟩
            · exact (((R69.out.setOther (by first | omega | (simp <;> omega)) _).setOther (by first | omega | (simp <;> omega)) _).setOther (by first | omega | (simp <;> omega)) _).low (by omega)
            · exact (((R4.out.setOther (by first | omega | (simp <;> omega)) _).setOther (by first | omega | (simp <;> omega)) _).setOther (by first | omega | (simp <;> omega)) _).low (by omega)
          · have h99' : bk < 99 := by omega
            have hRA := rowsAt_one w5 r 34
            have RA := Lib.hid hRA
            clear hRA
            go_wp2_with (at_builtin; refine wpList_append_row rfl _ _ rfl (dn.length + 1) eltReq rfl rfl (Row.alloc PA0.out (.cells #[.int .i64 r.c, .int .i64 r.n, .int .i64 r.o, .int .i64 r.x, .int .i64 r.y] 34)) RA.out rfl rfl rfl (by simp only [maxLen]; omega) (by omega) (by simp <;> omega) ?_)
            intro b2 d2 w6 q6
            have aW6 := (q6.grown.block _ (by first | omega | (simp <;> omega)) (fun e => by have := HB0.out _ e.symm; omega)).trans ((Below.heap_alloc _ _ _ (by first | omega | (simp <;> omega))).trans aW)
            have bW6 := (q6.grown.block _ (by first | omega | (simp <;> omega)) (fun e => by have := HB0.out _ e.symm; omega)).trans ((Below.heap_alloc _ _ _ (by first | omega | (simp <;> omega))).trans bW)
            have cW6 := (q6.grown.block _ (by first | omega | (simp <;> omega)) (fun e => by have := HB0.out _ e.symm; omega)).trans ((Below.heap_alloc _ _ _ (by first | omega | (simp <;> omega))).trans cW)
            have dW6 := (q6.grown.block _ (by first | omega | (simp <;> omega)) (fun e => by have := HB0.out _ e.symm; omega)).trans ((Below.heap_alloc _ _ _ (by first | omega | (simp <;> omega))).trans dW)
            have s6 := q6.grown.size
            simp only [World.size_alloc] at s6
            have K6 := Lib.hid ((Below.alloc K5 (by first | omega | (simp <;> omega)) (.cells #[.int .i64 r.c, .int .i64 r.n, .int .i64 r.o, .int .i64 r.x, .int .i64 r.y] 34)).grown q6.grown (by first | omega | (simp <;> omega)) (fun g hg => by have := HB0.out g hg; omega))
            have P16 := Lib.hid ((PA1.out.alloc (.cells #[.int .i64 r.c, .int .i64 r.n, .int .i64 r.o, .int .i64 r.x, .int .i64 r.y] 34)).kept q6.grown (fun g hg e => AP.out g e hg))
            have hb2 : ∀ g, rowBlk b2 d2 = some g → g ≠ w2.heap.size ∧ w1.heap.size ≤ g := fun g hg => by
              have hlow := (q6.row.blk hg).1
              refine ⟨?_, hlow⟩
              rcases q6.blk with q | q
              · have := (HB0.out g (q ▸ hg)).2; omega
              · rw [hg] at q; injection q with q; rw [World.size_alloc] at q; omega
            have HB2 := Lib.hid hb2
            have R6 := Lib.hid q6.row
            have HL6 := Lib.hid (show (dn ++ [r]).length = dn.length + 1 by simp)
            clear q6 RA hb2
            clear caW faW laW cbW fbW lbW ccW fcW lcW cdW fdW ldW
            clear aW bW cW dW
            have aW := aW6
            have bW := bW6
            have cW := cW6
            have dW := dW6
            clear aW6 bW6 cW6 dW6
            have caW := cell_of_block aW
            have faW := unfrozen_of_block aW
            have laW := lt_of_block aW
            have cbW := cell_of_block bW
            have fbW := unfrozen_of_block bW
            have lbW := lt_of_block bW
            have ccW := cell_of_block cW
            have fcW := unfrozen_of_block cW
            have lcW := lt_of_block cW
            have cdW := cell_of_block dW
            have fdW := unfrozen_of_block dW
            have ldW := lt_of_block dW
            go_wp2_with fail
            obtain ⟨Z, hZ, sZ, dZ, oZ, kZ⟩ := stored1 w6 w2.heap.size 0 (.slice b2 (dn.length + 1) d2) dW
            rw [← hZ]
            have R6Z := Lib.hid (show Row Z w1.heap.size 34 b2 d2 5 Rq.cs (dn ++ [r]) by rw [hZ]; exact R6.out.setNe (fun g hg => by have := (HB2.out g hg).1; simp only; omega) _)
            replace aW := (oZ _ (by omega)).trans aW
            replace bW := (oZ _ (by omega)).trans bW
            replace cW := (oZ _ (by omega)).trans cW
            replace dW : Z.heap[w2.heap.size]? = some (.cells #[.slice b2 (dn.length + 1) d2, .slice b1 wt.length d1, .int .i64 bk] 30 (0, 0)) := dZ
            have KZ := Lib.hid (K6.out.trans (kZ.mono (by omega)))
            clear caW faW laW cbW fbW lbW ccW fcW lcW cdW fdW ldW
            clear hZ oZ kZ dZ
            clear sZ
            have s6Z : w2.heap.size < Z.heap.size := lt_of_block dW
            have caW := cell_of_block aW
            have faW := unfrozen_of_block aW
            have laW := lt_of_block aW
            have cbW := cell_of_block bW
            have fbW := unfrozen_of_block bW
            have lbW := lt_of_block bW
            have ccW := cell_of_block cW
            have fcW := unfrozen_of_block cW
            have lcW := lt_of_block cW
            have cdW := cell_of_block dW
            have fdW := unfrozen_of_block dW
            have ldW := lt_of_block dW
            obtain ⟨ab, ao, ha1, hab, -⟩ := H1.out.bounds.2.2.2 k hk
            subst ha1
            have hlc1 := H1.out.bounds.2.1
            have hmc1 := H1.out.bounds.2.2.1
            unfold maxLen at hmc1
            have g1 : ((k : Nat) : Int) ≤ (c1 : Int) := by omega
            have g2 : ((k : Nat) : Int) + 1 ≤ (wt.length : Int) := by omega
            have g3 : ¬ c1 = 0 := by omega
            have g4 : k + 1 ≤ wt.length := by omega
            have g5 : ((k : Nat) : Int) < (wt.length : Int) := by omega
            have g6 : (wt.length : Int) ≤ (c1 : Int) := by omega
            have g7 : (0 : Int) ≤ ((k : Nat) : Int) + 1 := by omega
            have hrw := Lib.hid (H1.out.rowsAt KZ.out)
            refine wp_region_held_drew (S := fun w' => ((∀ o, w'.cell? ⟨w.heap.size, o, none⟩ = Z.cell? ⟨w.heap.size, o, none⟩) ∧ Below w2.heap.size Z w')) (by kernel_rfl) ⟨fun _ => rfl, Below.drew (Below.refl _ _)⟩ (fun hHeld => ?_)
            refine introFin2 (X := Ys) 0 #[true, true, true, true, true, true, true, true, true, true, true, true, true, true] (fun x T => (((((((((((((T.setIfInBounds 48 x.v0).setIfInBounds 49 (.pointer (some ⟨w.heap.size, 1, none⟩))).setIfInBounds 50 (.slice (some ⟨ab, ao, none⟩) wt.length c1)).setIfInBounds 51 (.int .i64 ((k : Nat) : Int))).setIfInBounds 52 x.v1).setIfInBounds 53 x.v2).setIfInBounds 54 (.pointer (some ⟨w.heap.size, 1, none⟩))).setIfInBounds 55 (.slice (some ⟨ab, ao, none⟩) wt.length c1)).setIfInBounds 56 (.int .i64 ((k : Nat) : Int))).setIfInBounds 57 (.int .i64 (((k : Nat) : Int) + 1))).setIfInBounds 58 x.v3).setIfInBounds 59 (.slice x.a (wt.length - 1) x.c)).setIfInBounds 60 (.pointer (some ⟨w2.heap.size, 1, none⟩)))) (fun x w' => Below w2.heap.size Z w' ∧ w'.heap[w2.heap.size]? = some (.cells #[.slice b2 (dn.length + 1) d2, .slice x.a (wt.length - 1) x.c, .int .i64 bk] 30 (0, 0)) ∧ Row w' Z.heap.size 34 x.a x.c 5 Rq.cs (wt.eraseIdx k) ∧ Row w' w1.heap.size 34 b2 d2 5 Rq.cs (dn ++ [r])) ?_ (fun hfin => ?_)
            rotate_left
            · obtain ⟨wd, hwd, kwd⟩ : ∃ wd, wd = Z.drew ∧ Below Z.heap.size Z wd := ⟨_, rfl, Below.drew (Below.refl _ _)⟩
              rw [← hwd] at hHeld ⊢
              clear hwd
              have sd := kwd.size
              have szd := Lib.hid sd
              refine wpAnyH_take (i := 1) (oi := _) (v := ?_) (by (simp only [List.getElem?_toArray]; rfl)) (by kernel_rfl) (by kernel_rfl) (by kernel_rfl) (by exact fun _ _ _ h => h) (Or.inl ⟨by rfl, ?_⟩) (by assumption) ?_
              rotate_left
              · intro wS hSw
                go_simp
                all_goals first | with_reducible rfl | rw [if_neg (by omega)]
              simp only [Act.put, List.setIfInBounds_toArray, List.set]
              refine wpAnyH_take (i := 2) (oi := _) (v := ?_) (by (simp only [List.getElem?_toArray]; rfl)) (by kernel_rfl) (by kernel_rfl) (by kernel_rfl) (by exact fun _ _ _ h => h) (Or.inl ⟨by rfl, ?_⟩) (by assumption) ?_
              rotate_left
              · intro wS hSw
                go_simp
                all_goals first | with_reducible rfl | rw [if_neg (by omega)]
              simp only [Act.put, List.setIfInBounds_toArray, List.set]
              refine wpAnyH_take (i := 3) (oi := _) (v := ?_) (by (simp only [List.getElem?_toArray]; rfl)) (by kernel_rfl) (by kernel_rfl) (by kernel_rfl) (by exact fun _ _ _ h => h) (Or.inl ⟨by rfl, ?_⟩) (by assumption) ?_
              rotate_left
              · intro wS hSw
                go_simp
                all_goals first | with_reducible rfl | rw [if_neg (by omega)]
              simp only [Act.put, List.setIfInBounds_toArray, List.set]
              refine wpAnyH_take (i := 4) (oi := _) (v := ?_) (by (simp only [List.getElem?_toArray]; rfl)) (by kernel_rfl) (by kernel_rfl) (by kernel_rfl) (by exact fun _ _ _ h => h) (Or.inl ⟨by rfl, ?_⟩) (by assumption) ?_
              rotate_left
              · intro wS hSw
                go_simp
                all_goals first | with_reducible rfl | rw [if_neg (by omega)]
              simp only [Act.put, List.setIfInBounds_toArray, List.set]
              refine wpAnyH_take (i := 6) (oi := _) (v := ?_) (by (simp only [List.getElem?_toArray]; rfl)) (by kernel_rfl) (by kernel_rfl) (by kernel_rfl) (by exact fun _ _ _ h => h) (Or.inl ⟨by rfl, ?_⟩) (by assumption) ?_
              rotate_left
              · intro wS hSw
                go_simp
                all_goals first | with_reducible rfl | rw [if_neg (by omega)]
              simp only [Act.put, List.setIfInBounds_toArray, List.set]
              refine wpAnyH_take (i := 7) (oi := _) (v := ?_) (by (simp only [List.getElem?_toArray]; rfl)) (by kernel_rfl) (by kernel_rfl) (by kernel_rfl) (by exact fun _ _ _ h => h) (Or.inl ⟨by rfl, ?_⟩) (by assumption) ?_
              rotate_left
              · intro wS hSw
                go_simp
                all_goals first | with_reducible rfl | rw [if_neg (by omega)]
              simp only [Act.put, List.setIfInBounds_toArray, List.set]
              refine wpAnyH_take (i := 8) (oi := _) (v := ?_) (by (simp only [List.getElem?_toArray]; rfl)) (by kernel_rfl) (by kernel_rfl) (by kernel_rfl) (by exact fun _ _ _ h => h) (Or.inl ⟨by rfl, ?_⟩) (by assumption) ?_
              rotate_left
              · intro wS hSw
                go_simp
                all_goals first | with_reducible rfl | rw [if_neg (by omega)]
              simp only [Act.put, List.setIfInBounds_toArray, List.set]
              refine wpAnyH_take (i := 9) (oi := _) (v := ?_) (by (simp only [List.getElem?_toArray]; rfl)) (by kernel_rfl) (by kernel_rfl) (by kernel_rfl) (by exact fun _ _ _ h => h) (Or.inl ⟨by rfl, ?_⟩) (by assumption) ?_
              rotate_left
              · intro wS hSw
                go_simp
                all_goals first | with_reducible rfl | rw [if_neg (by omega)]
              simp only [Act.put, List.setIfInBounds_toArray, List.set]
              refine wpAnyH_take (i := 10) (oi := _) (v := ?_) (by (simp only [List.getElem?_toArray]; rfl)) (by kernel_rfl) (by kernel_rfl) (by kernel_rfl) (by exact fun _ _ _ h => h) (Or.inl ⟨by rfl, ?_⟩) (by assumption) ?_
              rotate_left
              · intro wS hSw
                go_simp
                all_goals first | with_reducible rfl | rw [if_neg (by omega)]
              simp only [Act.put, List.setIfInBounds_toArray, List.set]
              refine wpAnyH_ready (rs := [0]) (by kernel_rfl) (by simp) ?_
              refine AllReadyH.cons (o := _) (by (simp only [List.getElem?_toArray]; rfl)) (fun K hK => ?_) AllReadyH.nil
              refine step_build0 (by rfl) (by rfl) eltReq ?_
              obtain ⟨we, hwe, swe, be, kwe⟩ := blocks1 wd (.cells #[] 34)
              rw [← hwe]
              clear hwe
              have ke := Lib.hid (below_next kwd kwe)
              refine hK.out _ _ ⟨fun o => ke.out.cell (p := ⟨w.heap.size, o, none⟩) (by show w.heap.size < Z.heap.size; omega), ke.out.mono (by omega)⟩ (fun hHeld => ?_)
              clear hK K hHeld
              simp only [Act.put, List.setIfInBounds_toArray, List.set]
              refine wpAnyH_ready (rs := [5]) (by kernel_rfl) (by simp) ?_
              refine AllReadyH.cons (o := _) (by (simp only [List.getElem?_toArray]; rfl)) (fun K hK => ?_) AllReadyH.nil
              refine step_append_new Z.heap.size (by rfl) (.tmp 48) (.tmp 52) (by rfl) eltReq (by rfl) (by rfl) ((hrw.out.take k).below (KZ.out.size |> fun _ => ke.out)) (by rw [List.length_take]; omega) (by simp only [maxLen]; omega) (by omega) (by have := ke.out.size; omega) ?_
              intro a8 c8 w8 q8
              have k8 := Lib.hid (below_next ke.out q8.below)
              refine hK.out _ _ ⟨fun o => k8.out.cell (p := ⟨w.heap.size, o, none⟩) (by show w.heap.size < Z.heap.size; omega), k8.out.mono (by omega)⟩ (fun hHeld => ?_)
              clear hK K hHeld
              simp only [Act.put, List.setIfInBounds_toArray, List.set]
              refine wpAnyH_ready (rs := [11]) (by kernel_rfl) (by simp) ?_
              refine AllReadyH.cons (o := _) (by (simp only [List.getElem?_toArray]; rfl)) (fun K hK => ?_) AllReadyH.nil
              refine step_append_elt (by rfl) (.tmp 53) (.tmp 58) (by rfl) (wt.length - 1) eltReq (by rfl) (by rfl) q8.row (ys := wt.drop (k + 1)) ((hrw.out.below k8.out).tail (k + 1) c1 (fun h => by omega)) (by rw [List.length_take]; omega) (by rw [List.length_drop]) (by omega) (by simp only [maxLen]; omega) (by omega) k8.out.size ?_
              intro a9 c9 w9 q9
              have er : wt.take k ++ wt.drop (k + 1) = wt.eraseIdx k := (List.eraseIdx_eq_take_drop_succ wt k).symm
              have r9 := q9.row
              rw [er] at r9
              have k9 : Below Z.heap.size Z w9 := k8.out.grown q9.grown k8.out.size (fun g hg => (q8.row.blk hg).1)
              have dW9 := (k9.block _ s6Z).trans dW
              have R69 := (((R6Z.out.below kwd).below kwe).below q8.below).kept q9.grown (fun g hg e => by have := (R6Z.out.blk hg).2; have := (q8.row.blk e).1; omega)
              refine hK.out _ _ ⟨fun o => k9.cell (p := ⟨w.heap.size, o, none⟩) (by show w.heap.size < Z.heap.size; omega), k9.mono (by omega)⟩ (fun hHeld => ?_)
              clear hK K
              simp only [Act.put, List.setIfInBounds_toArray, List.set]
              refine wpAnyH_take (i := 12) (oi := _) (v := ?_) (by (simp only [List.getElem?_toArray]; rfl)) (by kernel_rfl) (by kernel_rfl) (by kernel_rfl) (by exact fun _ _ _ h => h) (Or.inl ⟨by rfl, ?_⟩) (by assumption) ?_
              rotate_left
              · intro wS hSw
                go_simp
                all_goals first | with_reducible rfl | rw [if_neg (by omega)]
              simp only [Act.put, List.setIfInBounds_toArray, List.set]
              have c9W := cell_of_block dW9
              have f9W := unfrozen_of_block dW9
              refine wpAnyH_ready (rs := [13]) (by kernel_rfl) (by simp) ?_
              refine AllReadyH.cons (o := _) (by (simp only [List.getElem?_toArray]; rfl)) (fun K hK => ?_) AllReadyH.nil
              go_simp
              have kS := (k9.mono (show w2.heap.size ≤ Z.heap.size by omega)).setCell (p := ⟨w2.heap.size, 1, none⟩) (Nat.le_refl _) (.slice a9 (wt.length - 1) c9)
              refine hK.out _ _ ⟨fun o => (by rw [World.cell?_setCell_other (h := by simp <;> omega)] : _ = w9.cell? ⟨w.heap.size, o, none⟩).trans (k9.cell (p := ⟨w.heap.size, o, none⟩) (by show w.heap.size < Z.heap.size; omega)), kS⟩ (fun hHeld => ?_)
              clear hK K hHeld
              refine hfin (Ys.mk ?_ ?_ ?_ ?_ a9 c9) _ _ _ (by kernel_rfl) ?_ ⟨kS, block_setCell (i := 1) dW9 (.slice a9 (wt.length - 1) c9), r9.setOther (by simp <;> omega) _, R69.setNe (fun g hg => by have := (HB2.out g hg).1; simp only; omega) _⟩
              rotate_left 4
              simp only [List.setIfInBounds_toArray, List.set]
              rfl
            rintro ⟨v0, v1, v2, v3, b4, d4⟩ w9 ⟨k9, dW9, r4, r69⟩
            simp only at k9 dW9 r4 r69 ⊢
            simp only [List.setIfInBounds_toArray, List.set]
            refine wpAnyH_done (by kernel_rfl) ?_ _
            clear caW faW laW cbW fbW lbW ccW fcW lcW cdW fdW ldW
            replace aW := (k9.block _ (by omega)).trans aW
            replace bW := (k9.block _ (by omega)).trans bW
            replace cW := (k9.block _ (by omega)).trans cW
            clear dW
            have dW := dW9
            clear dW9
            have K9 := KZ.out.trans (k9.mono (by omega))
            have s9 := k9.size
            have R4 := Lib.hid r4
            have R69 := Lib.hid r69
            clear k9 r4 r69
            have HL8 := Lib.hid (show (wt.eraseIdx k).length = wt.length - 1 by rw [List.length_eraseIdx, if_pos hk])
            have caW := cell_of_block aW
            have faW := unfrozen_of_block aW
            have laW := lt_of_block aW
            have cbW := cell_of_block bW
            have fbW := unfrozen_of_block bW
            have lbW := lt_of_block bW
            have ccW := cell_of_block cW
            have fcW := unfrozen_of_block cW
            have lcW := lt_of_block cW
            have cdW := cell_of_block dW
            have fdW := unfrozen_of_block dW
            have ldW := lt_of_block dW
            have hb1' : IntKind.i64.wrap (bk + 1) = bk + 1 := IntWalk.i64_in _ ⟨by omega, by omega⟩
            go_wp2_with fail
            refine bodyPost_ret (v := .tuple #[.agg #[.slice b2 (dn.length + 1) d2, .slice b4 (wt.length - 1) d4, .int .i64 (bk + 1)], .bool true]) (by simp [results, Try.results23, go_sem, ccW]) rfl ?_
            have hp := keepA_eq (wt' := wt.eraseIdx k) (nb := (bk + 1)) hA hO HIX.out (by omega) (by rw [if_pos (by omega)]; rfl) (by rw [if_pos ⟨by omega, by omega⟩, if_pos (by omega)])
            rw [hp]
            unfold RetAS
            simp only [HL6.out, HL8.out]
            refine ⟨b2, d2, b4, d4, rfl, ?_, ?_, (by repeat' (first | with_reducible exact Below.refl _ _ | with_reducible assumption | with_reducible refine Below.alloc ?_ ?_ _ | with_reducible refine Below.drew ?_ | with_reducible refine Below.setCell ?_ ?_ _ | omega | (simp; omega) | (simp; done)))⟩
            · exact ((((R69.out.setNe (fun g hg => by have := (HB2.out g hg).1; simp only; omega) _).setOther (by first | omega | (simp <;> omega)) _).setOther (by first | omega | (simp <;> omega)) _).setOther (by first | omega | (simp <;> omega)) _).low (by omega)
            · exact ((((R4.out.setOther (by first | omega | (simp <;> omega)) _).setOther (by first | omega | (simp <;> omega)) _).setOther (by first | omega | (simp <;> omega)) _).setOther (by first | omega | (simp <;> omega)) _).low (by omega)
end Go.Proofs.Ytofedboeggdkaaa

