/- Contract of the reference's AheadKeep; condition: small sizes. | The walk of FnAheadKeep: it returns true for every code; no condition. | FnAheadKeep: the law returns true for every input; no condition. -/
import Derived.Test.YtofedboeggdkaaaKH
import Derived.Test.YtofedboeggdkaaaKIk
import Derived.Test.YtofedboeggdkaaaKA
import Derived.ProofKit
import Derived.OpenShut
import Derived.ShutString
import Derived.ChangeOld
import Derived.Below
set_option linter.unusedSimpArgs false
set_option linter.unusedVariables false
/-! Contract of the reference's AheadKeep; condition: small sizes. -/
namespace Go.Proofs.Ytofedboeggdkaaa
open Go.RowKit Go.Joins

theorem RowsAt.take {α : Type} {w : World} {a : Option Addr} {k : Nat} {R : α → List Value} {zs : List α} (h : RowsAt w a k R zs) (i : Nat) : RowsAt w a k R (zs.take i) := by
  intro j hj
  rw [List.length_take] at hj
  obtain ⟨b, off, q, hb, hc⟩ := h j (by omega)
  refine ⟨b, off, q, hb, fun t ht => ?_⟩
  rw [List.getElem_take]
  exact hc t ht
theorem RowsAt.tail {α : Type} {w : World} {g off k : Nat} {R : α → List Value} {zs : List α} (h : RowsAt w (some ⟨g, off, none⟩) k R zs) (i c : Nat) (hc : c = i → zs.length ≤ i) : RowsAt w (if c = i then some ⟨g, off, none⟩ else some ⟨g, off + i * k, none⟩) k R (zs.drop i) := by
  split
  · rename_i he
    rw [List.drop_eq_nil_of_le (hc he)]
    exact RowsAt.empty _ _ _ _
  · exact h.drop i
structure Ys where
  v0 : Value
  v1 : Value
  v2 : Value
  v3 : Value
  a : Option Addr
  c : Nat

set_option maxRecDepth 100000 in
set_option maxHeartbeats 16000000 in
theorem sAheadKeep_c (z : Ah) (r : Rq) (a0 a1 : Option Addr) (c0 c1 : Nat) (w : World) (h0 : IsSl w (.slice a0 z.dn.length c0) 5 Rq.cs z.dn) (h1 : IsSl w (.slice a1 z.wt.length c1) 5 Rq.cs z.wt) (hs : z.dn.length + z.wt.length ≤ 1048576) :
    Calls Try.prog 23 #[.agg #[.slice a0 z.dn.length c0, .slice a1 z.wt.length c1, .int .i64 z.bk], .agg #[.int .i64 r.c, .int .i64 r.n, .int .i64 r.o, .int .i64 r.x, .int .i64 r.y]] w (RetAS (keepA z r).1 (keepA z r).2 w) := by
  obtain ⟨dn, wt, bk⟩ := z
  simp only at h0 h1 hs ⊢
  have H0 := Lib.hid h0
  have H1 := Lib.hid h1
  clear h0 h1
  by_cases hA : aheadB ⟨dn, wt, bk⟩ = true
  case neg =>
    have hA' : aheadB ⟨dn, wt, bk⟩ = false := by simpa using hA
    have hp : keepA ⟨dn, wt, bk⟩ r = (⟨[], [], 0⟩, false) := by unfold keepA; rw [if_neg hA]
    rw [hp]
    go_enter Try.func23, Try.ntmps23
    go_wp2_with fail
    obtain ⟨W, hW, sW, aW, bW, cW, kW⟩ := blocks3 w (.cells #[.slice a0 dn.length c0, .slice a1 wt.length c1, .int .i64 bk] 30) (.cells #[.int .i64 r.c, .int .i64 r.n, .int .i64 r.o, .int .i64 r.x, .int .i64 r.y] 34) (.cells #[.slice none 0 0, .slice none 0 0, .int .i64 0] 30)
    rw [← hW]
    clear hW
    refine (l8Ok_c ⟨dn, wt, bk⟩ _ _ _ _ _ (H0.out.below kW) (H1.out.below kW) hs).mono ?_
    rintro e w1 ⟨rfl, k1⟩
    rw [hA']
    have K1 := below_next kW k1
    have cz := cell_of_block (carryB k1 (by omega) cW)
    have fz := unfrozen_of_block (carryB k1 (by omega) cW)
    go_wp2_with fail
    refine bodyPost_ret (v := .tuple #[.agg #[.slice none 0 0, .slice none 0 0, .int .i64 0], .bool false]) (by simp [results, Try.results23, go_sem, cz]) rfl ?_
    exact ⟨none, 0, none, 0, rfl, Row.nil _ _ _ _ _ _, Row.nil _ _ _ _ _ _, (by repeat' (first | with_reducible exact Below.refl _ _ | with_reducible assumption | with_reducible refine Below.alloc ?_ ?_ _ | with_reducible refine Below.drew ?_ | with_reducible refine Below.setCell ?_ ?_ _ | omega | (simp; omega) | (simp; done)))⟩
  have h60 : dn.length + wt.length ≤ 60 ∧ 0 ≤ bk ∧ bk ≤ 99 := by
    unfold aheadB at hA
    simp only [Bool.and_eq_true, decide_eq_true_eq, inB_iff] at hA
    exact ⟨hA.1.2, hA.2.1, hA.2.2⟩
  obtain ⟨h60, hbk0, hbk1⟩ := h60
  go_enter Try.func23, Try.ntmps23
  go_wp2_with fail
  obtain ⟨W, hW, sW, aW, bW, cW, kW⟩ := blocks3 w (.cells #[.slice a0 dn.length c0, .slice a1 wt.length c1, .int .i64 bk] 30) (.cells #[.int .i64 r.c, .int .i64 r.n, .int .i64 r.o, .int .i64 r.x, .int .i64 r.y] 34) (.cells #[.slice none 0 0, .slice none 0 0, .int .i64 0] 30)
  rw [← hW]
  clear hW
  refine (l8Ok_c ⟨dn, wt, bk⟩ _ _ _ _ _ (H0.out.below kW) (H1.out.below kW) hs).mono ?_
  rintro e w1 ⟨rfl, k1⟩
  rw [hA]
  have K1 := below_next kW k1
  have s1 := k1.size
  replace aW := carryB k1 (by omega) aW
  replace bW := carryB k1 (by omega) bW
  replace cW := carryB k1 (by omega) cW
  have caW := cell_of_block aW
  have faW := unfrozen_of_block aW
  have laW := lt_of_block aW
  clear kW k1
  go_wp2_with fail
  refine (l8Copy_c ⟨dn, wt, bk⟩ _ _ _ _ _ _ w1 (H0.out.below K1) (H1.out.below K1) (by omega) (by omega)).mono ?_
  rintro e w2 ⟨v, rfl, ⟨b0, d0, b1, d1, rfl, r0, r1, ap⟩, k2⟩
  simp only at r0 r1
  have K2 := below_next K1 k2
  have R0 := Lib.hid r0
  have R1 := Lib.hid r1
  have AP := Lib.hid ap
  have HB0 := Lib.hid (fun g (hg : rowBlk b0 d0 = some g) => r0.blk hg)
  have HB1 := Lib.hid (fun g (hg : rowBlk b1 d1 = some g) => r1.blk hg)
  have s2 := k2.size
  clear caW faW laW
  replace aW := carryB k2 (by omega) aW
  replace bW := carryB k2 (by omega) bW
  replace cW := carryB k2 (by omega) cW
  clear K1 k2 r0 r1 ap
  have caW := cell_of_block aW
  have faW := unfrozen_of_block aW
  have laW := lt_of_block aW
  have cbW := cell_of_block bW
  have fbW := unfrozen_of_block bW
  have lbW := lt_of_block bW
  have ccW := cell_of_block cW
  have fcW := unfrozen_of_block cW
  have lcW := lt_of_block cW
  go_wp2_with fail
  obtain ⟨X, hX, sX, dW, kX⟩ := blocks1 w2 (.cells #[.slice b0 dn.length d0, .slice b1 wt.length d1, .int .i64 bk] 30)
  rw [← hX]
  clear hX
  clear caW faW laW cbW fbW lbW ccW fcW lcW
  have KX := below_next K2 kX
  refine (l8At_c ⟨dn, wt, bk⟩ r a0 a1 _ _ c0 c1 X (H1.out.below KX)).mono ?_
  rintro e w3 ⟨rfl, k3⟩
  have s3 := k3.size
  replace aW := carryB kX (by omega) aW
  replace bW := carryB kX (by omega) bW
  replace cW := carryB kX (by omega) cW
  replace aW := carryB k3 (by omega) aW
  replace bW := carryB k3 (by omega) bW
  replace cW := carryB k3 (by omega) cW
  replace dW := carryB k3 (by omega) dW
  have K3 := below_next KX k3
  have Q0 := Lib.hid ((R0.out.below kX).below k3)
  have Q1 := Lib.hid ((R1.out.below kX).below k3)
  clear kX k3 K2 KX R0 R1
  have caW := cell_of_block aW
  have faW := unfrozen_of_block aW
  have laW := lt_of_block aW
  have cbW := cell_of_block bW
  have fbW := unfrozen_of_block bW
  have lbW := lt_of_block bW
  have ccW := cell_of_block cW
  have fcW := unfrozen_of_block cW
  have lcW := lt_of_block cW
  have cdW := cell_of_block dW
  have fdW := unfrozen_of_block dW
  have ldW := lt_of_block dW
  go_wp2_with fail
  refine (l1Ok_c r.c r.n r.o r.x r.y w3).mono ?_
  rintro e w4 ⟨rfl, k4⟩
  have s4 := k4.size
  clear caW faW laW cbW fbW lbW ccW fcW lcW cdW fdW ldW
  replace aW := carryB k4 (by omega) aW
  replace bW := carryB k4 (by omega) bW
  replace cW := carryB k4 (by omega) cW
  replace dW := carryB k4 (by omega) dW
  have K4 := below_next K3 k4
  have P0 := Lib.hid (Q0.out.below k4)
  have P1 := Lib.hid (Q1.out.below k4)
  clear k4 K3 Q0 Q1
  have caW := cell_of_block aW
  have faW := unfrozen_of_block aW
  have laW := lt_of_block aW
  have cbW := cell_of_block bW
  have fbW := unfrozen_of_block bW
  have lbW := lt_of_block bW
  have ccW := cell_of_block cW
  have fcW := unfrozen_of_block cW
  have lcW := lt_of_block cW
  have cdW := cell_of_block dW
  have fdW := unfrozen_of_block dW
  have ldW := lt_of_block dW
  have ne_ : ¬ (w.heap.size + 1 + 1 = w2.heap.size) := by omega
  have ne_ : ¬ (w2.heap.size = w.heap.size + 1 + 1) := by omega
  have HX := Lib.hid (idxI_range wt r)
  simp only
  generalize hix : idxI wt r = ix at *
  have HIX := Lib.hid hix
  clear hix
  cases hK : okB r.c r.n r.o r.x r.y with
  | true =>
    have hO : good r = true := by unfold good goodB; rw [hK]; simp
    rcases HX.out with hix | ⟨k, hix, hk⟩
    · subst hix
      by_cases h6 : dn.length + wt.length = 60
      · have hp : keepA ⟨dn, wt, bk⟩ r = (⟨dn, wt, bk⟩, false) := by unfold keepA; rw [if_pos hA, hO, HIX.out]; simp [h6]
        have h60' : (60 : Int) ≤ ((dn.length : Int) + (wt.length : Int)) := by omega
        go_wp2_with fail
        refine bodyPost_ret (v := .tuple #[.agg #[.slice b0 dn.length d0, .slice b1 wt.length d1, .int .i64 bk], .bool false]) (by simp [results, Try.results23, go_sem, ccW]) rfl ?_
        try rw [hp]
        exact ⟨b0, d0, b1, d1, rfl, (((P0.out.setOther (by first | omega | (simp <;> omega)) _).setOther (by first | omega | (simp <;> omega)) _).setOther (by first | omega | (simp <;> omega)) _).low (by omega), (((P1.out.setOther (by first | omega | (simp <;> omega)) _).setOther (by first | omega | (simp <;> omega)) _).setOther (by first | omega | (simp <;> omega)) _).low (by omega), (by repeat' (first | with_reducible exact Below.refl _ _ | with_reducible assumption | with_reducible refine Below.alloc ?_ ?_ _ | with_reducible refine Below.drew ?_ | with_reducible refine Below.setCell ?_ ?_ _ | omega | (simp; omega) | (simp; done)))⟩
      · have h60' : ¬ (60 : Int) ≤ ((dn.length : Int) + (wt.length : Int)) := by omega
        have H6 := Lib.hid h6
        clear h6
        by_cases hw0 : wt.length = 0
        · have hw0' : ¬ (0 : Int) < (wt.length : Int) := by omega
          have HW0 := Lib.hid hw0
          clear hw0
          have hRA := rowsAt_one w4 r 34
          have RA := Lib.hid hRA
          clear hRA
          go_wp2_with (at_builtin; refine wpList_append_row rfl _ _ rfl (dn.length + 1) eltReq rfl rfl (Row.alloc P0.out (.cells #[.int .i64 r.c, .int .i64 r.n, .int .i64 r.o, .int .i64 r.x, .int .i64 r.y] 34)) RA.out rfl rfl rfl (by simp only [maxLen]; omega) (by omega) (by simp <;> omega) ?_)
          intro b2 d2 w6 q6
          have aW6 := (q6.grown.block _ (by first | omega | (simp <;> omega)) (fun e => by have := HB0.out _ e.symm; omega)).trans ((Below.heap_alloc _ _ _ (by first | omega | (simp <;> omega))).trans aW)
          have bW6 := (q6.grown.block _ (by first | omega | (simp <;> omega)) (fun e => by have := HB0.out _ e.symm; omega)).trans ((Below.heap_alloc _ _ _ (by first | omega | (simp <;> omega))).trans bW)
          have cW6 := (q6.grown.block _ (by first | omega | (simp <;> omega)) (fun e => by have := HB0.out _ e.symm; omega)).trans ((Below.heap_alloc _ _ _ (by first | omega | (simp <;> omega))).trans cW)
          have dW6 := (q6.grown.block _ (by first | omega | (simp <;> omega)) (fun e => by have := HB0.out _ e.symm; omega)).trans ((Below.heap_alloc _ _ _ (by first | omega | (simp <;> omega))).trans dW)
          have s6 := q6.grown.size
          simp only [World.size_alloc] at s6
          have K6 := Lib.hid ((Below.alloc K4 (by first | omega | (simp <;> omega)) (.cells #[.int .i64 r.c, .int .i64 r.n, .int .i64 r.o, .int .i64 r.x, .int .i64 r.y] 34)).grown q6.grown (by first | omega | (simp <;> omega)) (fun g hg => by have := HB0.out g hg; omega))
          have P16 := Lib.hid ((P1.out.alloc (.cells #[.int .i64 r.c, .int .i64 r.n, .int .i64 r.o, .int .i64 r.x, .int .i64 r.y] 34)).kept q6.grown (fun g hg e => AP.out g e hg))
          have hb2 : ∀ g, rowBlk b2 d2 = some g → g ≠ w2.heap.size ∧ w1.heap.size ≤ g := fun g hg => by
            have hlow := (q6.row.blk hg).1
            refine ⟨?_, hlow⟩
            rcases q6.blk with q | q
            · have := (HB0.out g (q ▸ hg)).2; omega
            · rw [hg] at q; injection q with q; rw [World.size_alloc] at q; omega
          have HB2 := Lib.hid hb2
          have R6 := Lib.hid q6.row
          have HL6 := Lib.hid (show (dn ++ [r]).length = dn.length + 1 by simp)
          clear q6 RA hb2
          clear caW faW laW cbW fbW lbW ccW fcW lcW cdW fdW ldW
          clear aW bW cW dW
          have aW := aW6
          have bW := bW6
          have cW := cW6
          have dW := dW6
          clear aW6 bW6 cW6 dW6
          have caW := cell_of_block aW
          have faW := unfrozen_of_block aW
          have laW := lt_of_block aW
          have cbW := cell_of_block bW
          have fbW := unfrozen_of_block bW
          have lbW := lt_of_block bW
          have ccW := cell_of_block cW
          have fcW := unfrozen_of_block cW
          have lcW := lt_of_block cW
          have cdW := cell_of_block dW
          have fdW := unfrozen_of_block dW
          have ldW := lt_of_block dW
          go_wp2_with fail
          refine bodyPost_ret (v := .tuple #[.agg #[.slice b2 (dn.length + 1) d2, .slice b1 wt.length d1, .int .i64 bk], .bool true]) (by simp [results, Try.results23, go_sem, ccW]) rfl ?_
          have hp := keepA_eq (wt' := wt) (nb := bk) hA hO HIX.out (by have := H6.out; omega) (by rw [if_neg (by omega)]) (by rw [if_neg (by have := HW0.out; omega)])
          rw [hp]
          unfold RetAS
          simp only [HL6.out]
          have K6' := K6.out
          refine ⟨b2, d2, b1, d1, rfl, ?_, ?_, (by repeat' (first | with_reducible exact Below.refl _ _ | with_reducible assumption | with_reducible refine Below.alloc ?_ ?_ _ | with_reducible refine Below.drew ?_ | with_reducible refine Below.setCell ?_ ?_ _ | omega | (simp; omega) | (simp; done)))⟩
          · exact ((((R6.out.setNe (fun g hg => by have := (HB2.out g hg).1; simp only; omega) _).setOther (by first | omega | (simp <;> omega)) _).setOther (by first | omega | (simp <;> omega)) _).setOther (by first | omega | (simp <;> omega)) _).low (by omega)
          · exact ((((P16.out.setNe (fun g hg => by have := (HB1.out g hg).2; simp only; omega) _).setOther (by first | omega | (simp <;> omega)) _).setOther (by first | omega | (simp <;> omega)) _).setOther (by first | omega | (simp <;> omega)) _).low (by omega)
        · have hw0' : (0 : Int) < (wt.length : Int) := by omega
          by_cases h99 : bk = 99
          · subst h99
            have hRA := rowsAt_one w4 r 34
            have RA := Lib.hid hRA
            clear hRA
            go_wp2_with (at_builtin; refine wpList_append_row rfl _ _ rfl (dn.length + 1) eltReq rfl rfl (Row.alloc P0.out (.cells #[.int .i64 r.c, .int .i64 r.n, .int .i64 r.o, .int .i64 r.x, .int .i64 r.y] 34)) RA.out rfl rfl rfl (by simp only [maxLen]; omega) (by omega) (by simp <;> omega) ?_)
            intro b2 d2 w6 q6
            have aW6 := (q6.grown.block _ (by first | omega | (simp <;> omega)) (fun e => by have := HB0.out _ e.symm; omega)).trans ((Below.heap_alloc _ _ _ (by first | omega | (simp <;> omega))).trans aW)
            have bW6 := (q6.grown.block _ (by first | omega | (simp <;> omega)) (fun e => by have := HB0.out _ e.symm; omega)).trans ((Below.heap_alloc _ _ _ (by first | omega | (simp <;> omega))).trans bW)
            have cW6 := (q6.grown.block _ (by first | omega | (simp <;> omega)) (fun e => by have := HB0.out _ e.symm; omega)).trans ((Below.heap_alloc _ _ _ (by first | omega | (simp <;> omega))).trans cW)
            have dW6 := (q6.grown.block _ (by first | omega | (simp <;> omega)) (fun e => by have := HB0.out _ e.symm; omega)).trans ((Below.heap_alloc _ _ _ (by first | omega | (simp <;> omega))).trans dW)
            have s6 := q6.grown.size
            simp only [World.size_alloc] at s6
            have K6 := Lib.hid ((Below.alloc K4 (by first | omega | (simp <;> omega)) (.cells #[.int .i64 r.c, .int .i64 r.n, .int .i64 r.o, .int .i64 r.x, .int .i64 r.y] 34)).grown q6.grown (by first | omega | (simp <;> omega)) (fun g hg => by have := HB0.out g hg; omega))
            have P16 := Lib.hid ((P1.out.alloc (.cells #[.int .i64 r.c, .int .i64 r.n, .int .i64 r.o, .int .i64 r.x, .int .i64 r.y] 34)).kept q6.grown (fun g hg e => AP.out g e hg))
            have hb2 : ∀ g, rowBlk b2 d2 = some g → g ≠ w2.heap.size ∧ w1.heap.size ≤ g := fun g hg => by
              have hlow := (q6.row.blk hg).1
              refine ⟨?_, hlow⟩
              rcases q6.blk with q | q
              · have := (HB0.out g (q ▸ hg)).2; omega
              · rw [hg] at q; injection q with q; rw [World.size_alloc] at q; omega
            have HB2 := Lib.hid hb2
            have R6 := Lib.hid q6.row
            have HL6 := Lib.hid (show (dn ++ [r]).length = dn.length + 1 by simp)
            clear q6 RA hb2
            clear caW faW laW cbW fbW lbW ccW fcW lcW cdW fdW ldW
            clear aW bW cW dW
            have aW := aW6
            have bW := bW6
            have cW := cW6
            have dW := dW6
            clear aW6 bW6 cW6 dW6
            have caW := cell_of_block aW
            have faW := unfrozen_of_block aW
            have laW := lt_of_block aW
            have cbW := cell_of_block bW
            have fbW := unfrozen_of_block bW
            have lbW := lt_of_block bW
            have ccW := cell_of_block cW
            have fcW := unfrozen_of_block cW
            have lcW := lt_of_block cW
            have cdW := cell_of_block dW
            have fdW := unfrozen_of_block dW
            have ldW := lt_of_block dW
            go_wp2_with fail
            refine bodyPost_ret (v := .tuple #[.agg #[.slice b2 (dn.length + 1) d2, .slice b1 wt.length d1, .int .i64 99], .bool true]) (by simp [results, Try.results23, go_sem, ccW]) rfl ?_
            have hp := keepA_eq (wt' := wt) (nb := 99) hA hO HIX.out (by have := H6.out; omega) (by rw [if_neg (by omega)]) (by rw [if_pos ⟨by omega, by omega⟩]; rfl)
            rw [hp]
            unfold RetAS
            simp only [HL6.out]
            have K6' := K6.out
            refine ⟨b2, d2, b1, d1, rfl, ?_, ?_, (by repeat' (first | with_reducible exact Below.refl _ _ | with_reducible assumption | with_reducible refine Below.alloc ?_ ?_ _ | with_reducible refine Below.drew ?_ | with_reducible refine Below.setCell ?_ ?_ _ | omega | (simp; omega) | (simp; done)))⟩
            · exact ((((R6.out.setNe (fun g hg => by have := (HB2.out g hg).1; simp only; omega) _).setOther (by first | omega | (simp <;> omega)) _).setOther (by first | omega | (simp <;> omega)) _).setOther (by first | omega | (simp <;> omega)) _).low (by omega)
            · exact ((((P16.out.setNe (fun g hg => by have := (HB1.out g hg).2; simp only; omega) _).setOther (by first | omega | (simp <;> omega)) _).setOther (by first | omega | (simp <;> omega)) _).setOther (by first | omega | (simp <;> omega)) _).low (by omega)
          · have h99' : bk < 99 := by omega
            have hRA := rowsAt_one w4 r 34
            have RA := Lib.hid hRA
            clear hRA
            go_wp2_with (at_builtin; refine wpList_append_row rfl _ _ rfl (dn.length + 1) eltReq rfl rfl (Row.alloc P0.out (.cells #[.int .i64 r.c, .int .i64 r.n, .int .i64 r.o, .int .i64 r.x, .int .i64 r.y] 34)) RA.out rfl rfl rfl (by simp only [maxLen]; omega) (by omega) (by simp <;> omega) ?_)
            intro b2 d2 w6 q6
            have aW6 := (q6.grown.block _ (by first | omega | (simp <;> omega)) (fun e => by have := HB0.out _ e.symm; omega)).trans ((Below.heap_alloc _ _ _ (by first | omega | (simp <;> omega))).trans aW)
            have bW6 := (q6.grown.block _ (by first | omega | (simp <;> omega)) (fun e => by have := HB0.out _ e.symm; omega)).trans ((Below.heap_alloc _ _ _ (by first | omega | (simp <;> omega))).trans bW)
            have cW6 := (q6.grown.block _ (by first | omega | (simp <;> omega)) (fun e => by have := HB0.out _ e.symm; omega)).trans ((Below.heap_alloc _ _ _ (by first | omega | (simp <;> omega))).trans cW)
            have dW6 := (q6.grown.block _ (by first | omega | (simp <;> omega)) (fun e => by have := HB0.out _ e.symm; omega)).trans ((Below.heap_alloc _ _ _ (by first | omega | (simp <;> omega))).trans dW)
            have s6 := q6.grown.size
            simp only [World.size_alloc] at s6
            have K6 := Lib.hid ((Below.alloc K4 (by first | omega | (simp <;> omega)) (.cells #[.int .i64 r.c, .int .i64 r.n, .int .i64 r.o, .int .i64 r.x, .int .i64 r.y] 34)).grown q6.grown (by first | omega | (simp <;> omega)) (fun g hg => by have := HB0.out g hg; omega))
            have P16 := Lib.hid ((P1.out.alloc (.cells #[.int .i64 r.c, .int .i64 r.n, .int .i64 r.o, .int .i64 r.x, .int .i64 r.y] 34)).kept q6.grown (fun g hg e => AP.out g e hg))
            have hb2 : ∀ g, rowBlk b2 d2 = some g → g ≠ w2.heap.size ∧ w1.heap.size ≤ g := fun g hg => by
              have hlow := (q6.row.blk hg).1
              refine ⟨?_, hlow⟩
              rcases q6.blk with q | q
              · have := (HB0.out g (q ▸ hg)).2; omega
              · rw [hg] at q; injection q with q; rw [World.size_alloc] at q; omega
            have HB2 := Lib.hid hb2
            have R6 := Lib.hid q6.row
            have HL6 := Lib.hid (show (dn ++ [r]).length = dn.length + 1 by simp)
            clear q6 RA hb2
            clear caW faW laW cbW fbW lbW ccW fcW lcW cdW fdW ldW
            clear aW bW cW dW
            have aW := aW6
            have bW := bW6
            have cW := cW6
            have dW := dW6
            clear aW6 bW6 cW6 dW6
            have caW := cell_of_block aW
            have faW := unfrozen_of_block aW
            have laW := lt_of_block aW
            have cbW := cell_of_block bW
            have fbW := unfrozen_of_block bW
            have lbW := lt_of_block bW
            have ccW := cell_of_block cW
            have fcW := unfrozen_of_block cW
            have lcW := lt_of_block cW
            have cdW := cell_of_block dW
            have fdW := unfrozen_of_block dW
            have ldW := lt_of_block dW
            have hb1' : IntKind.i64.wrap (bk + 1) = bk + 1 := IntWalk.i64_in _ ⟨by omega, by omega⟩
            go_wp2_with fail
            refine bodyPost_ret (v := .tuple #[.agg #[.slice b2 (dn.length + 1) d2, .slice b1 wt.length d1, .int .i64 (bk + 1)], .bool true]) (by simp [results, Try.results23, go_sem, ccW]) rfl ?_
            have hp := keepA_eq (wt' := wt) (nb := (bk + 1)) hA hO HIX.out (by have := H6.out; omega) (by rw [if_neg (by omega)]) (by rw [if_pos ⟨by omega, by omega⟩, if_pos (by omega)])
            rw [hp]
            unfold RetAS
            simp only [HL6.out]
            have K6' := K6.out
            refine ⟨b2, d2, b1, d1, rfl, ?_, ?_, (by repeat' (first | with_reducible exact Below.refl _ _ | with_reducible assumption | with_reducible refine Below.alloc ?_ ?_ _ | with_reducible refine Below.drew ?_ | with_reducible refine Below.setCell ?_ ?_ _ | omega | (simp; omega) | (simp; done)))⟩
            · exact (((((R6.out.setNe (fun g hg => by have := (HB2.out g hg).1; simp only; omega) _).setNe (fun g hg => by have := (HB2.out g hg).1; simp only; omega) _).setOther (by first | omega | (simp <;> omega)) _).setOther (by first | omega | (simp <;> omega)) _).setOther (by first | omega | (simp <;> omega)) _).low (by omega)
            · exact (((((P16.out.setNe (fun g hg => by have := (HB1.out g hg).2; simp only; omega) _).setNe (fun g hg => by have := (HB1.out g hg).2; simp only; omega) _).setOther (by first | omega | (simp <;> omega)) _).setOther (by first | omega | (simp <;> omega)) _).setOther (by first | omega | (simp <;> omega)) _).low (by omega)
    · subst hix
      have hx0 : ¬ ((k : Nat) : Int) < 0 := by omega
      have hx1 : (0 : Int) ≤ ((k : Nat) : Int) := by omega
      have hw0' : (0 : Int) < (wt.length : Int) := by omega
      by_cases hk0 : k = 0
      · subst hk0
        have hRA := rowsAt_one w4 r 34
        have RA := Lib.hid hRA
        clear hRA
        go_wp2_with (at_builtin; refine wpList_append_row rfl _ _ rfl (dn.length + 1) eltReq rfl rfl (Row.alloc P0.out (.cells #[.int .i64 r.c, .int .i64 r.n, .int .i64 r.o, .int .i64 r.x, .int .i64 r.y] 34)) RA.out rfl rfl rfl (by simp only [maxLen]; omega) (by omega) (by simp <;> omega) ?_)
        intro b2 d2 w6 q6
        have aW6 := (q6.grown.block _ (by first | omega | (simp <;> omega)) (fun e => by have := HB0.out _ e.symm; omega)).trans ((Below.heap_alloc _ _ _ (by first | omega | (simp <;> omega))).trans aW)
        have bW6 := (q6.grown.block _ (by first | omega | (simp <;> omega)) (fun e => by have := HB0.out _ e.symm; omega)).trans ((Below.heap_alloc _ _ _ (by first | omega | (simp <;> omega))).trans bW)
        have cW6 := (q6.grown.block _ (by first | omega | (simp <;> omega)) (fun e => by have := HB0.out _ e.symm; omega)).trans ((Below.heap_alloc _ _ _ (by first | omega | (simp <;> omega))).trans cW)
        have dW6 := (q6.grown.block _ (by first | omega | (simp <;> omega)) (fun e => by have := HB0.out _ e.symm; omega)).trans ((Below.heap_alloc _ _ _ (by first | omega | (simp <;> omega))).trans dW)
        have s6 := q6.grown.size
        simp only [World.size_alloc] at s6
        have K6 := Lib.hid ((Below.alloc K4 (by first | omega | (simp <;> omega)) (.cells #[.int .i64 r.c, .int .i64 r.n, .int .i64 r.o, .int .i64 r.x, .int .i64 r.y] 34)).grown q6.grown (by first | omega | (simp <;> omega)) (fun g hg => by have := HB0.out g hg; omega))
        have P16 := Lib.hid ((P1.out.alloc (.cells #[.int .i64 r.c, .int .i64 r.n, .int .i64 r.o, .int .i64 r.x, .int .i64 r.y] 34)).kept q6.grown (fun g hg e => AP.out g e hg))
        have hb2 : ∀ g, rowBlk b2 d2 = some g → g ≠ w2.heap.size ∧ w1.heap.size ≤ g := fun g hg => by
          have hlow := (q6.row.blk hg).1
          refine ⟨?_, hlow⟩
          rcases q6.blk with q | q
          · have := (HB0.out g (q ▸ hg)).2; omega
          · rw [hg] at q; injection q with q; rw [World.size_alloc] at q; omega
        have HB2 := Lib.hid hb2
        have R6 := Lib.hid q6.row
        have HL6 := Lib.hid (show (dn ++ [r]).length = dn.length + 1 by simp)
        clear q6 RA hb2
        clear caW faW laW cbW fbW lbW ccW fcW lcW cdW fdW ldW
        clear aW bW cW dW
        have aW := aW6
        have bW := bW6
        have cW := cW6
        have dW := dW6
        clear aW6 bW6 cW6 dW6
        have caW := cell_of_block aW
        have faW := unfrozen_of_block aW
        have laW := lt_of_block aW
        have cbW := cell_of_block bW
        have fbW := unfrozen_of_block bW
        have lbW := lt_of_block bW
        have ccW := cell_of_block cW
        have fcW := unfrozen_of_block cW
        have lcW := lt_of_block cW
        have cdW := cell_of_block dW
        have fdW := unfrozen_of_block dW
        have ldW := lt_of_block dW
        go_wp2_with fail
        obtain ⟨Z, hZ, sZ, dZ, oZ, kZ⟩ := stored1 w6 w2.heap.size 0 (.slice b2 (dn.length + 1) d2) dW
        rw [← hZ]
        have R6Z := Lib.hid (show Row Z w1.heap.size 34 b2 d2 5 Rq.cs (dn ++ [r]) by rw [hZ]; exact R6.out.setNe (fun g hg => by have := (HB2.out g hg).1; simp only; omega) _)
        replace aW := (oZ _ (by omega)).trans aW
        replace bW := (oZ _ (by omega)).trans bW
        replace cW := (oZ _ (by omega)).trans cW
        replace dW : Z.heap[w2.heap.size]? = some (.cells #[.slice b2 (dn.length + 1) d2, .slice b1 wt.length d1, .int .i64 bk] 30 (0, 0)) := dZ
        have KZ := Lib.hid (K6.out.trans (kZ.mono (by omega)))
        clear caW faW laW cbW fbW lbW ccW fcW lcW cdW fdW ldW
        clear hZ oZ kZ dZ
        clear sZ
        have s6Z : w2.heap.size < Z.heap.size := lt_of_block dW
        have caW := cell_of_block aW
        have faW := unfrozen_of_block aW
        have laW := lt_of_block aW
        have cbW := cell_of_block bW
        have fbW := unfrozen_of_block bW
        have lbW := lt_of_block bW
        have ccW := cell_of_block cW
        have fcW := unfrozen_of_block cW
        have lcW := lt_of_block cW
        have cdW := cell_of_block dW
        have fdW := unfrozen_of_block dW
        have ldW := lt_of_block dW
        obtain ⟨ab, ao, ha1, hab, -⟩ := H1.out.bounds.2.2.2 0 hk
        subst ha1
        have hlc1 := H1.out.bounds.2.1
        have hmc1 := H1.out.bounds.2.2.1
        unfold maxLen at hmc1
        have g1 : ((0 : Nat) : Int) ≤ (c1 : Int) := by omega
        have g2 : ((0 : Nat) : Int) + 1 ≤ (wt.length : Int) := by omega
        have g3 : ¬ c1 = 0 := by omega
        have g4 : 0 + 1 ≤ wt.length := by omega
        have g5 : ((0 : Nat) : Int) < (wt.length : Int) := by omega
        have g6 : (wt.length : Int) ≤ (c1 : Int) := by omega
        have g7 : IntKind.i64.wrap 1 = 1 := by decide
        have g8 : (1 : Int) ≤ (wt.length : Int) := by omega
        have hrw := Lib.hid (H1.out.rowsAt KZ.out)
        refine wp_region_held_drew (S := fun w' => ((∀ o, w'.cell? ⟨w.heap.size, o, none⟩ = Z.cell? ⟨w.heap.size, o, none⟩) ∧ Below w2.heap.size Z w')) (by kernel_rfl) ⟨fun _ => rfl, Below.drew (Below.refl _ _)⟩ (fun hHeld => ?_)
        refine introFin2 (X := Ys) 0 #[true, true, true, true, true, true, true, true, true, true, true, true, true, true] (fun x T => (((((((((((((T.setIfInBounds 48 x.v0).setIfInBounds 49 (.pointer (some ⟨w.heap.size, 1, none⟩))).setIfInBounds 50 (.slice (some ⟨ab, ao, none⟩) wt.length c1)).setIfInBounds 51 (.int .i64 0)).setIfInBounds 52 x.v1).setIfInBounds 53 x.v2).setIfInBounds 54 (.pointer (some ⟨w.heap.size, 1, none⟩))).setIfInBounds 55 (.slice (some ⟨ab, ao, none⟩) wt.length c1)).setIfInBounds 56 (.int .i64 0)).setIfInBounds 57 (.int .i64 1)).setIfInBounds 58 x.v3).setIfInBounds 59 (.slice x.a (wt.length - 1) x.c)).setIfInBounds 60 (.pointer (some ⟨w2.heap.size, 1, none⟩)))) (fun x w' => Below w2.heap.size Z w' ∧ w'.heap[w2.heap.size]? = some (.cells #[.slice b2 (dn.length + 1) d2, .slice x.a (wt.length - 1) x.c, .int .i64 bk] 30 (0, 0)) ∧ Row w' Z.heap.size 34 x.a x.c 5 Rq.cs (wt.eraseIdx 0) ∧ Row w' w1.heap.size 34 b2 d2 5 Rq.cs (dn ++ [r])) ?_ (fun hfin => ?_)
        rotate_left
        · obtain ⟨wd, hwd, kwd⟩ : ∃ wd, wd = Z.drew ∧ Below Z.heap.size Z wd := ⟨_, rfl, Below.drew (Below.refl _ _)⟩
          rw [← hwd] at hHeld ⊢
          clear hwd
          have sd := kwd.size
          have szd := Lib.hid sd
          refine wpAnyH_take (i := 1) (oi := _) (v := ?_) (by (simp only [List.getElem?_toArray]; rfl)) (by kernel_rfl) (by kernel_rfl) (by kernel_rfl) (by exact fun _ _ _ h => h) (Or.inl ⟨by rfl, ?_⟩) (by assumption) ?_
          rotate_left
          · intro wS hSw
            go_simp
            all_goals first | with_reducible rfl | rw [if_neg (by omega)]
          simp only [Act.put, List.setIfInBounds_toArray, List.set]
          refine wpAnyH_take (i := 2) (oi := _) (v := ?_) (by (simp only [List.getElem?_toArray]; rfl)) (by kernel_rfl) (by kernel_rfl) (by kernel_rfl) (by exact fun _ _ _ h => h) (Or.inl ⟨by rfl, ?_⟩) (by assumption) ?_
          rotate_left
          · intro wS hSw
            go_simp
            all_goals first | with_reducible rfl | rw [if_neg (by omega)]
          simp only [Act.put, List.setIfInBounds_toArray, List.set]
          refine wpAnyH_take (i := 3) (oi := _) (v := ?_) (by (simp only [List.getElem?_toArray]; rfl)) (by kernel_rfl) (by kernel_rfl) (by kernel_rfl) (by exact fun _ _ _ h => h) (Or.inl ⟨by rfl, ?_⟩) (by assumption) ?_
          rotate_left
          · intro wS hSw
            go_simp
            all_goals first | with_reducible rfl | rw [if_neg (by omega)]
          simp only [Act.put, List.setIfInBounds_toArray, List.set]
          refine wpAnyH_take (i := 4) (oi := _) (v := ?_) (by (simp only [List.getElem?_toArray]; rfl)) (by kernel_rfl) (by kernel_rfl) (by kernel_rfl) (by exact fun _ _ _ h => h) (Or.inl ⟨by rfl, ?_⟩) (by assumption) ?_
          rotate_left
          · intro wS hSw
            go_simp
            all_goals first | with_reducible rfl | rw [if_neg (by omega)]
          simp only [Act.put, List.setIfInBounds_toArray, List.set]
          refine wpAnyH_take (i := 6) (oi := _) (v := ?_) (by (simp only [List.getElem?_toArray]; rfl)) (by kernel_rfl) (by kernel_rfl) (by kernel_rfl) (by exact fun _ _ _ h => h) (Or.inl ⟨by rfl, ?_⟩) (by assumption) ?_
          rotate_left
          · intro wS hSw
            go_simp
            all_goals first | with_reducible rfl | rw [if_neg (by omega)]
          simp only [Act.put, List.setIfInBounds_toArray, List.set]
          refine wpAnyH_take (i := 7) (oi := _) (v := ?_) (by (simp only [List.getElem?_toArray]; rfl)) (by kernel_rfl) (by kernel_rfl) (by kernel_rfl) (by exact fun _ _ _ h => h) (Or.inl ⟨by rfl, ?_⟩) (by assumption) ?_
          rotate_left
          · intro wS hSw
            go_simp
            all_goals first | with_reducible rfl | rw [if_neg (by omega)]
          simp only [Act.put, List.setIfInBounds_toArray, List.set]
          refine wpAnyH_take (i := 8) (oi := _) (v := ?_) (by (simp only [List.getElem?_toArray]; rfl)) (by kernel_rfl) (by kernel_rfl) (by kernel_rfl) (by exact fun _ _ _ h => h) (Or.inl ⟨by rfl, ?_⟩) (by assumption) ?_
          rotate_left
          · intro wS hSw
            go_simp
            all_goals first | with_reducible rfl | rw [if_neg (by omega)]
          simp only [Act.put, List.setIfInBounds_toArray, List.set]
          refine wpAnyH_take (i := 9) (oi := _) (v := ?_) (by (simp only [List.getElem?_toArray]; rfl)) (by kernel_rfl) (by kernel_rfl) (by kernel_rfl) (by exact fun _ _ _ h => h) (Or.inl ⟨by rfl, ?_⟩) (by assumption) ?_
          rotate_left
          · intro wS hSw
            go_simp
            all_goals first | with_reducible rfl | rw [if_neg (by omega)]
          simp only [Act.put, List.setIfInBounds_toArray, List.set]
          refine wpAnyH_take (i := 10) (oi := _) (v := ?_) (by (simp only [List.getElem?_toArray]; rfl)) (by kernel_rfl) (by kernel_rfl) (by kernel_rfl) (by exact fun _ _ _ h => h) (Or.inl ⟨by rfl, ?_⟩) (by assumption) ?_
          rotate_left
          · intro wS hSw
            go_simp
            all_goals first | with_reducible rfl | rw [if_neg (by omega)]
          simp only [Act.put, List.setIfInBounds_toArray, List.set]
          refine wpAnyH_ready (rs := [0]) (by kernel_rfl) (by simp) ?_
          refine AllReadyH.cons (o := _) (by (simp only [List.getElem?_toArray]; rfl)) (fun K hK => ?_) AllReadyH.nil
          refine step_build0 (by rfl) (by rfl) eltReq ?_
          obtain ⟨we, hwe, swe, be, kwe⟩ := blocks1 wd (.cells #[] 34)
          rw [← hwe]
          clear hwe
          have ke := Lib.hid (below_next kwd kwe)
          refine hK.out _ _ ⟨fun o => ke.out.cell (p := ⟨w.heap.size, o, none⟩) (by show w.heap.size < Z.heap.size; omega), ke.out.mono (by omega)⟩ (fun hHeld => ?_)
          clear hK K hHeld
          simp only [Act.put, List.setIfInBounds_toArray, List.set]
          refine wpAnyH_ready (rs := [5]) (by kernel_rfl) (by simp) ?_
          refine AllReadyH.cons (o := _) (by (simp only [List.getElem?_toArray]; rfl)) (fun K hK => ?_) AllReadyH.nil
          refine step_append_new Z.heap.size (by rfl) (.tmp 48) (.tmp 52) (by rfl) eltReq (by rfl) (by rfl) ((hrw.out.take 0).below (KZ.out.size |> fun _ => ke.out)) (by rw [List.length_take]; omega) (by simp only [maxLen]; omega) (by omega) (by have := ke.out.size; omega) ?_
          intro a8 c8 w8 q8
          have k8 := Lib.hid (below_next ke.out q8.below)
          refine hK.out _ _ ⟨fun o => k8.out.cell (p := ⟨w.heap.size, o, none⟩) (by show w.heap.size < Z.heap.size; omega), k8.out.mono (by omega)⟩ (fun hHeld => ?_)
          clear hK K hHeld
          simp only [Act.put, List.setIfInBounds_toArray, List.set]
          refine wpAnyH_ready (rs := [11]) (by kernel_rfl) (by simp) ?_
          refine AllReadyH.cons (o := _) (by (simp only [List.getElem?_toArray]; rfl)) (fun K hK => ?_) AllReadyH.nil
          refine step_append_elt (by rfl) (.tmp 53) (.tmp 58) (by rfl) (wt.length - 1) eltReq (by rfl) (by rfl) q8.row (ys := wt.drop (0 + 1)) ((hrw.out.below k8.out).tail (0 + 1) c1 (fun h => by omega)) (by rw [List.length_take]; omega) (by rw [List.length_drop]) (by omega) (by simp only [maxLen]; omega) (by omega) k8.out.size ?_
          intro a9 c9 w9 q9
          have er : wt.take 0 ++ wt.drop (0 + 1) = wt.eraseIdx 0 := (List.eraseIdx_eq_take_drop_succ wt 0).symm
          have r9 := q9.row
          rw [er] at r9
          have k9 : Below Z.heap.size Z w9 := k8.out.grown q9.grown k8.out.size (fun g hg => (q8.row.blk hg).1)
          have dW9 := (k9.block _ s6Z).trans dW
          have R69 := (((R6Z.out.below kwd).below kwe).below q8.below).kept q9.grown (fun g hg e => by have := (R6Z.out.blk hg).2; have := (q8.row.blk e).1; omega)
          refine hK.out _ _ ⟨fun o => k9.cell (p := ⟨w.heap.size, o, none⟩) (by show w.heap.size < Z.heap.size; omega), k9.mono (by omega)⟩ (fun hHeld => ?_)
          clear hK K
          simp only [Act.put, List.setIfInBounds_toArray, List.set]
          refine wpAnyH_take (i := 12) (oi := _) (v := ?_) (by (simp only [List.getElem?_toArray]; rfl)) (by kernel_rfl) (by kernel_rfl) (by kernel_rfl) (by exact fun _ _ _ h => h) (Or.inl ⟨by rfl, ?_⟩) (by assumption) ?_
          rotate_left
          · intro wS hSw
            go_simp
            all_goals first | with_reducible rfl | rw [if_neg (by omega)]
          simp only [Act.put, List.setIfInBounds_toArray, List.set]
          have c9W := cell_of_block dW9
          have f9W := unfrozen_of_block dW9
          refine wpAnyH_ready (rs := [13]) (by kernel_rfl) (by simp) ?_
          refine AllReadyH.cons (o := _) (by (simp only [List.getElem?_toArray]; rfl)) (fun K hK => ?_) AllReadyH.nil
          go_simp
          have kS := (k9.mono (show w2.heap.size ≤ Z.heap.size by omega)).setCell (p := ⟨w2.heap.size, 1, none⟩) (Nat.le_refl _) (.slice a9 (wt.length - 1) c9)
          refine hK.out _ _ ⟨fun o => (by rw [World.cell?_setCell_other (h := by simp <;> omega)] : _ = w9.cell? ⟨w.heap.size, o, none⟩).trans (k9.cell (p := ⟨w.heap.size, o, none⟩) (by show w.heap.size < Z.heap.size; omega)), kS⟩ (fun hHeld => ?_)
          clear hK K hHeld
          refine hfin (Ys.mk ?_ ?_ ?_ ?_ a9 c9) _ _ _ (by kernel_rfl) ?_ ⟨kS, block_setCell (i := 1) dW9 (.slice a9 (wt.length - 1) c9), r9.setOther (by simp <;> omega) _, R69.setNe (fun g hg => by have := (HB2.out g hg).1; simp only; omega) _⟩
          rotate_left 4
          simp only [List.setIfInBounds_toArray, List.set]
          rfl
        rintro ⟨v0, v1, v2, v3, b4, d4⟩ w9 ⟨k9, dW9, r4, r69⟩
        simp only at k9 dW9 r4 r69 ⊢
        simp only [List.setIfInBounds_toArray, List.set]
        refine wpAnyH_done (by kernel_rfl) ?_ _
        clear caW faW laW cbW fbW lbW ccW fcW lcW cdW fdW ldW
        replace aW := (k9.block _ (by omega)).trans aW
        replace bW := (k9.block _ (by omega)).trans bW
        replace cW := (k9.block _ (by omega)).trans cW
        clear dW
        have dW := dW9
        clear dW9
        have K9 := KZ.out.trans (k9.mono (by omega))
        have s9 := k9.size
        have R4 := Lib.hid r4
        have R69 := Lib.hid r69
        clear k9 r4 r69
        have HL8 := Lib.hid (show (wt.eraseIdx 0).length = wt.length - 1 by rw [List.length_eraseIdx, if_pos hk])
        have caW := cell_of_block aW
        have faW := unfrozen_of_block aW
        have laW := lt_of_block aW
        have cbW := cell_of_block bW
        have fbW := unfrozen_of_block bW
        have lbW := lt_of_block bW
        have ccW := cell_of_block cW
        have fcW := unfrozen_of_block cW
        have lcW := lt_of_block cW
        have cdW := cell_of_block dW
        have fdW := unfrozen_of_block dW
        have ldW := lt_of_block dW
        go_wp2_with fail
        refine bodyPost_ret (v := .tuple #[.agg #[.slice b2 (dn.length + 1) d2, .slice b4 (wt.length - 1) d4, .int .i64 bk], .bool true]) (by simp [results, Try.results23, go_sem, ccW]) rfl ?_
        have hp := keepA_eq (wt' := wt.eraseIdx 0) (nb := bk) hA hO HIX.out (by omega) (by rw [if_pos (by omega)]; rfl) (by rw [if_neg (by omega)])
        rw [hp]
        unfold RetAS
        simp only [HL6.out, HL8.out]
        refine ⟨b2, d2, b4, d4, rfl, ?_, ?_, (by repeat' (first | with_reducible exact Below.refl _ _ | with_reducible assumption | with_reducible refine Below.alloc ?_ ?_ _ | with_reducible refine Below.drew ?_ | with_reducible refine Below.setCell ?_ ?_ _ | omega | (simp; omega) | (simp; done)))⟩
        · exact (((R69.out.setOther (by first | omega | (simp <;> omega)) _).setOther (by first | omega | (simp <;> omega)) _).setOther (by first | omega | (simp <;> omega)) _).low (by omega)
        · exact (((R4.out.setOther (by first | omega | (simp <;> omega)) _).setOther (by first | omega | (simp <;> omega)) _).setOther (by first | omega | (simp <;> omega)) _).low (by omega)
      · have hk0' : ¬ ((k : Nat) : Int) = 0 := by omega
        have hwk : IntKind.i64.wrap ((k : Int) + 1) = (k : Int) + 1 := IntWalk.i64_in _ ⟨by omega, by omega⟩
        by_cases h99 : bk = 99
        · subst h99
          have hRA := rowsAt_one w4 r 34
          have RA := Lib.hid hRA
          clear hRA
          go_wp2_with (at_builtin; refine wpList_append_row rfl _ _ rfl (dn.length + 1) eltReq rfl rfl (Row.alloc P0.out (.cells #[.int .i64 r.c, .int .i64 r.n, .int .i64 r.o, .int .i64 r.x, .int .i64 r.y] 34)) RA.out rfl rfl rfl (by simp only [maxLen]; omega) (by omega) (by simp <;> omega) ?_)
          intro b2 d2 w6 q6
          have aW6 := (q6.grown.block _ (by first | omega | (simp <;> omega)) (fun e => by have := HB0.out _ e.symm; omega)).trans ((Below.heap_alloc _ _ _ (by first | omega | (simp <;> omega))).trans aW)
          have bW6 := (q6.grown.block _ (by first | omega | (simp <;> omega)) (fun e => by have := HB0.out _ e.symm; omega)).trans ((Below.heap_alloc _ _ _ (by first | omega | (simp <;> omega))).trans bW)
          have cW6 := (q6.grown.block _ (by first | omega | (simp <;> omega)) (fun e => by have := HB0.out _ e.symm; omega)).trans ((Below.heap_alloc _ _ _ (by first | omega | (simp <;> omega))).trans cW)
          have dW6 := (q6.grown.block _ (by first | omega | (simp <;> omega)) (fun e => by have := HB0.out _ e.symm; omega)).trans ((Below.heap_alloc _ _ _ (by first | omega | (simp <;> omega))).trans dW)
          have s6 := q6.grown.size
          simp only [World.size_alloc] at s6
          have K6 := Lib.hid ((Below.alloc K4 (by first | omega | (simp <;> omega)) (.cells #[.int .i64 r.c, .int .i64 r.n, .int .i64 r.o, .int .i64 r.x, .int .i64 r.y] 34)).grown q6.grown (by first | omega | (simp <;> omega)) (fun g hg => by have := HB0.out g hg; omega))
          have P16 := Lib.hid ((P1.out.alloc (.cells #[.int .i64 r.c, .int .i64 r.n, .int .i64 r.o, .int .i64 r.x, .int .i64 r.y] 34)).kept q6.grown (fun g hg e => AP.out g e hg))
          have hb2 : ∀ g, rowBlk b2 d2 = some g → g ≠ w2.heap.size ∧ w1.heap.size ≤ g := fun g hg => by
            have hlow := (q6.row.blk hg).1
            refine ⟨?_, hlow⟩
            rcases q6.blk with q | q
            · have := (HB0.out g (q ▸ hg)).2; omega
            · rw [hg] at q; injection q with q; rw [World.size_alloc] at q; omega
          have HB2 := Lib.hid hb2
          have R6 := Lib.hid q6.row
          have HL6 := Lib.hid (show (dn ++ [r]).length = dn.length + 1 by simp)
          clear q6 RA hb2
          clear caW faW laW cbW fbW lbW ccW fcW lcW cdW fdW ldW
          clear aW bW cW dW
          have aW := aW6
          have bW := bW6
          have cW := cW6
          have dW := dW6
          clear aW6 bW6 cW6 dW6
          have caW := cell_of_block aW
          have faW := unfrozen_of_block aW
          have laW := lt_of_block aW
          have cbW := cell_of_block bW
          have fbW := unfrozen_of_block bW
          have lbW := lt_of_block bW
          have ccW := cell_of_block cW
          have fcW := unfrozen_of_block cW
          have lcW := lt_of_block cW
          have cdW := cell_of_block dW
          have fdW := unfrozen_of_block dW
          have ldW := lt_of_block dW
          go_wp2_with fail
          obtain ⟨Z, hZ, sZ, dZ, oZ, kZ⟩ := stored1 w6 w2.heap.size 0 (.slice b2 (dn.length + 1) d2) dW
          rw [← hZ]
          have R6Z := Lib.hid (show Row Z w1.heap.size 34 b2 d2 5 Rq.cs (dn ++ [r]) by rw [hZ]; exact R6.out.setNe (fun g hg => by have := (HB2.out g hg).1; simp only; omega) _)
          replace aW := (oZ _ (by omega)).trans aW
          replace bW := (oZ _ (by omega)).trans bW
          replace cW := (oZ _ (by omega)).trans cW
          replace dW : Z.heap[w2.heap.size]? = some (.cells #[.slice b2 (dn.length + 1) d2, .slice b1 wt.length d1, .int .i64 99] 30 (0, 0)) := dZ
          have KZ := Lib.hid (K6.out.trans (kZ.mono (by omega)))
          clear caW faW laW cbW fbW lbW ccW fcW lcW cdW fdW ldW
          clear hZ oZ kZ dZ
          clear sZ
          have s6Z : w2.heap.size < Z.heap.size := lt_of_block dW
          have caW := cell_of_block aW
          have faW := unfrozen_of_block aW
          have laW := lt_of_block aW
          have cbW := cell_of_block bW
          have fbW := unfrozen_of_block bW
          have lbW := lt_of_block bW
          have ccW := cell_of_block cW
          have fcW := unfrozen_of_block cW
          have lcW := lt_of_block cW
          have cdW := cell_of_block dW
          have fdW := unfrozen_of_block dW
          have ldW := lt_of_block dW
          obtain ⟨ab, ao, ha1, hab, -⟩ := H1.out.bounds.2.2.2 k hk
          subst ha1
          have hlc1 := H1.out.bounds.2.1
          have hmc1 := H1.out.bounds.2.2.1
          unfold maxLen at hmc1
          have g1 : ((k : Nat) : Int) ≤ (c1 : Int) := by omega
          have g2 : ((k : Nat) : Int) + 1 ≤ (wt.length : Int) := by omega
          have g3 : ¬ c1 = 0 := by omega
          have g4 : k + 1 ≤ wt.length := by omega
          have g5 : ((k : Nat) : Int) < (wt.length : Int) := by omega
          have g6 : (wt.length : Int) ≤ (c1 : Int) := by omega
          have g7 : (0 : Int) ≤ ((k : Nat) : Int) + 1 := by omega
          have hrw := Lib.hid (H1.out.rowsAt KZ.out)
          refine wp_region_held_drew (S := fun w' => ((∀ o, w'.cell? ⟨w.heap.size, o, none⟩ = Z.cell? ⟨w.heap.size, o, none⟩) ∧ Below w2.heap.size Z w')) (by kernel_rfl) ⟨fun _ => rfl, Below.drew (Below.refl _ _)⟩ (fun hHeld => ?_)
          refine introFin2 (X := Ys) 0 #[true, true, true, true, true, true, true, true, true, true, true, true, true, true] (fun x T => (((((((((((((T.setIfInBounds 48 x.v0).setIfInBounds 49 (.pointer (some ⟨w.heap.size, 1, none⟩))).setIfInBounds 50 (.slice (some ⟨ab, ao, none⟩) wt.length c1)).setIfInBounds 51 (.int .i64 ((k : Nat) : Int))).setIfInBounds 52 x.v1).setIfInBounds 53 x.v2).setIfInBounds 54 (.pointer (some ⟨w.heap.size, 1, none⟩))).setIfInBounds 55 (.slice (some ⟨ab, ao, none⟩) wt.length c1)).setIfInBounds 56 (.int .i64 ((k : Nat) : Int))).setIfInBounds 57 (.int .i64 (((k : Nat) : Int) + 1))).setIfInBounds 58 x.v3).setIfInBounds 59 (.slice x.a (wt.length - 1) x.c)).setIfInBounds 60 (.pointer (some ⟨w2.heap.size, 1, none⟩)))) (fun x w' => Below w2.heap.size Z w' ∧ w'.heap[w2.heap.size]? = some (.cells #[.slice b2 (dn.length + 1) d2, .slice x.a (wt.length - 1) x.c, .int .i64 99] 30 (0, 0)) ∧ Row w' Z.heap.size 34 x.a x.c 5 Rq.cs (wt.eraseIdx k) ∧ Row w' w1.heap.size 34 b2 d2 5 Rq.cs (dn ++ [r])) ?_ (fun hfin => ?_)
          rotate_left
          · obtain ⟨wd, hwd, kwd⟩ : ∃ wd, wd = Z.drew ∧ Below Z.heap.size Z wd := ⟨_, rfl, Below.drew (Below.refl _ _)⟩
            rw [← hwd] at hHeld ⊢
            clear hwd
            have sd := kwd.size
            have szd := Lib.hid sd
            refine wpAnyH_take (i := 1) (oi := _) (v := ?_) (by (simp only [List.getElem?_toArray]; rfl)) (by kernel_rfl) (by kernel_rfl) (by kernel_rfl) (by exact fun _ _ _ h => h) (Or.inl ⟨by rfl, ?_⟩) (by assumption) ?_
            rotate_left
            · intro wS hSw
              go_simp
              all_goals first | with_reducible rfl | rw [if_neg (by omega)]
            simp only [Act.put, List.setIfInBounds_toArray, List.set]
            refine wpAnyH_take (i := 2) (oi := _) (v := ?_) (by (simp only [List.getElem?_toArray]; rfl)) (by kernel_rfl) (by kernel_rfl) (by kernel_rfl) (by exact fun _ _ _ h => h) (Or.inl ⟨by rfl, ?_⟩) (by assumption) ?_
            rotate_left
            · intro wS hSw
              go_simp
              all_goals first | with_reducible rfl | rw [if_neg (by omega)]
            simp only [Act.put, List.setIfInBounds_toArray, List.set]
            refine wpAnyH_take (i := 3) (oi := _) (v := ?_) (by (simp only [List.getElem?_toArray]; rfl)) (by kernel_rfl) (by kernel_rfl) (by kernel_rfl) (by exact fun _ _ _ h => h) (Or.inl ⟨by rfl, ?_⟩) (by assumption) ?_
            rotate_left
            · intro wS hSw
              go_simp
              all_goals first | with_reducible rfl | rw [if_neg (by omega)]
            simp only [Act.put, List.setIfInBounds_toArray, List.set]
            refine wpAnyH_take (i := 4) (oi := _) (v := ?_) (by (simp only [List.getElem?_toArray]; rfl)) (by kernel_rfl) (by kernel_rfl) (by kernel_rfl) (by exact fun _ _ _ h => h) (Or.inl ⟨by rfl, ?_⟩) (by assumption) ?_
            rotate_left
            · intro wS hSw
              go_simp
              all_goals first | with_reducible rfl | rw [if_neg (by omega)]
            simp only [Act.put, List.setIfInBounds_toArray, List.set]
            refine wpAnyH_take (i := 6) (oi := _) (v := ?_) (by (simp only [List.getElem?_toArray]; rfl)) (by kernel_rfl) (by kernel_rfl) (by kernel_rfl) (by exact fun _ _ _ h => h) (Or.inl ⟨by rfl, ?_⟩) (by assumption) ?_
            rotate_left
            · intro wS hSw
              go_simp
              all_goals first | with_reducible rfl | rw [if_neg (by omega)]
            simp only [Act.put, List.setIfInBounds_toArray, List.set]
            refine wpAnyH_take (i := 7) (oi := _) (v := ?_) (by (simp only [List.getElem?_toArray]; rfl)) (by kernel_rfl) (by kernel_rfl) (by kernel_rfl) (by exact fun _ _ _ h => h) (Or.inl ⟨by rfl, ?_⟩) (by assumption) ?_
            rotate_left
            · intro wS hSw
              go_simp
              all_goals first | with_reducible rfl | rw [if_neg (by omega)]
            simp only [Act.put, List.setIfInBounds_toArray, List.set]
            refine wpAnyH_take (i := 8) (oi := _) (v := ?_) (by (simp only [List.getElem?_toArray]; rfl)) (by kernel_rfl) (by kernel_rfl) (by kernel_rfl) (by exact fun _ _ _ h => h) (Or.inl ⟨by rfl, ?_⟩) (by assumption) ?_
            rotate_left
            · intro wS hSw
              go_simp
              all_goals first | with_reducible rfl | rw [if_neg (by omega)]
            simp only [Act.put, List.setIfInBounds_toArray, List.set]
            refine wpAnyH_take (i := 9) (oi := _) (v := ?_) (by (simp only [List.getElem?_toArray]; rfl)) (by kernel_rfl) (by kernel_rfl) (by kernel_rfl) (by exact fun _ _ _ h => h) (Or.inl ⟨by rfl, ?_⟩) (by assumption) ?_
            rotate_left
            · intro wS hSw
              go_simp
              all_goals first | with_reducible rfl | rw [if_neg (by omega)]
            simp only [Act.put, List.setIfInBounds_toArray, List.set]
            refine wpAnyH_take (i := 10) (oi := _) (v := ?_) (by (simp only [List.getElem?_toArray]; rfl)) (by kernel_rfl) (by kernel_rfl) (by kernel_rfl) (by exact fun _ _ _ h => h) (Or.inl ⟨by rfl, ?_⟩) (by assumption) ?_
            rotate_left
            · intro wS hSw
              go_simp
              all_goals first | with_reducible rfl | rw [if_neg (by omega)]
            simp only [Act.put, List.setIfInBounds_toArray, List.set]
            refine wpAnyH_ready (rs := [0]) (by kernel_rfl) (by simp) ?_
            refine AllReadyH.cons (o := _) (by (simp only [List.getElem?_toArray]; rfl)) (fun K hK => ?_) AllReadyH.nil
            refine step_build0 (by rfl) (by rfl) eltReq ?_
            obtain ⟨we, hwe, swe, be, kwe⟩ := blocks1 wd (.cells #[] 34)
            rw [← hwe]
            clear hwe
            have ke := Lib.hid (below_next kwd kwe)
            refine hK.out _ _ ⟨fun o => ke.out.cell (p := ⟨w.heap.size, o, none⟩) (by show w.heap.size < Z.heap.size; omega), ke.out.mono (by omega)⟩ (fun hHeld => ?_)
            clear hK K hHeld
            simp only [Act.put, List.setIfInBounds_toArray, List.set]
            refine wpAnyH_ready (rs := [5]) (by kernel_rfl) (by simp) ?_
            refine AllReadyH.cons (o := _) (by (simp only [List.getElem?_toArray]; rfl)) (fun K hK => ?_) AllReadyH.nil
            refine step_append_new Z.heap.size (by rfl) (.tmp 48) (.tmp 52) (by rfl) eltReq (by rfl) (by rfl) ((hrw.out.take k).below (KZ.out.size |> fun _ => ke.out)) (by rw [List.length_take]; omega) (by simp only [maxLen]; omega) (by omega) (by have := ke.out.size; omega) ?_
            intro a8 c8 w8 q8
            have k8 := Lib.hid (below_next ke.out q8.below)
            refine hK.out _ _ ⟨fun o => k8.out.cell (p := ⟨w.heap.size, o, none⟩) (by show w.heap.size < Z.heap.size; omega), k8.out.mono (by omega)⟩ (fun hHeld => ?_)
            clear hK K hHeld
            simp only [Act.put, List.setIfInBounds_toArray, List.set]
            refine wpAnyH_ready (rs := [11]) (by kernel_rfl) (by simp) ?_
            refine AllReadyH.cons (o := _) (by (simp only [List.getElem?_toArray]; rfl)) (fun K hK => ?_) AllReadyH.nil
            refine step_append_elt (by rfl) (.tmp 53) (.tmp 58) (by rfl) (wt.length - 1) eltReq (by rfl) (by rfl) q8.row (ys := wt.drop (k + 1)) ((hrw.out.below k8.out).tail (k + 1) c1 (fun h => by omega)) (by rw [List.length_take]; omega) (by rw [List.length_drop]) (by omega) (by simp only [maxLen]; omega) (by omega) k8.out.size ?_
            intro a9 c9 w9 q9
            have er : wt.take k ++ wt.drop (k + 1) = wt.eraseIdx k := (List.eraseIdx_eq_take_drop_succ wt k).symm
            have r9 := q9.row
            rw [er] at r9
            have k9 : Below Z.heap.size Z w9 := k8.out.grown q9.grown k8.out.size (fun g hg => (q8.row.blk hg).1)
            have dW9 := (k9.block _ s6Z).trans dW
            have R69 := (((R6Z.out.below kwd).below kwe).below q8.below).kept q9.grown (fun g hg e => by have := (R6Z.out.blk hg).2; have := (q8.row.blk e).1; omega)
            refine hK.out _ _ ⟨fun o => k9.cell (p := ⟨w.heap.size, o, none⟩) (by show w.heap.size < Z.heap.size; omega), k9.mono (by omega)⟩ (fun hHeld => ?_)
            clear hK K
            simp only [Act.put, List.setIfInBounds_toArray, List.set]
            refine wpAnyH_take (i := 12) (oi := _) (v := ?_) (by (simp only [List.getElem?_toArray]; rfl)) (by kernel_rfl) (by kernel_rfl) (by kernel_rfl) (by exact fun _ _ _ h => h) (Or.inl ⟨by rfl, ?_⟩) (by assumption) ?_
            rotate_left
            · intro wS hSw
              go_simp
              all_goals first | with_reducible rfl | rw [if_neg (by omega)]
            simp only [Act.put, List.setIfInBounds_toArray, List.set]
            have c9W := cell_of_block dW9
            have f9W := unfrozen_of_block dW9
            refine wpAnyH_ready (rs := [13]) (by kernel_rfl) (by simp) ?_
            refine AllReadyH.cons (o := _) (by (simp only [List.getElem?_toArray]; rfl)) (fun K hK => ?_) AllReadyH.nil
            go_simp
            have kS := (k9.mono (show w2.heap.size ≤ Z.heap.size by omega)).setCell (p := ⟨w2.heap.size, 1, none⟩) (Nat.le_refl _) (.slice a9 (wt.length - 1) c9)
            refine hK.out _ _ ⟨fun o => (by rw [World.cell?_setCell_other (h := by simp <;> omega)] : _ = w9.cell? ⟨w.heap.size, o, none⟩).trans (k9.cell (p := ⟨w.heap.size, o, none⟩) (by show w.heap.size < Z.heap.size; omega)), kS⟩ (fun hHeld => ?_)
            clear hK K hHeld
            refine hfin (Ys.mk ?_ ?_ ?_ ?_ a9 c9) _ _ _ (by kernel_rfl) ?_ ⟨kS, block_setCell (i := 1) dW9 (.slice a9 (wt.length - 1) c9), r9.setOther (by simp <;> omega) _, R69.setNe (fun g hg => by have := (HB2.out g hg).1; simp only; omega) _⟩
            rotate_left 4
            simp only [List.setIfInBounds_toArray, List.set]
            rfl
          rintro ⟨v0, v1, v2, v3, b4, d4⟩ w9 ⟨k9, dW9, r4, r69⟩
          simp only at k9 dW9 r4 r69 ⊢
          simp only [List.setIfInBounds_toArray, List.set]
          refine wpAnyH_done (by kernel_rfl) ?_ _
          clear caW faW laW cbW fbW lbW ccW fcW lcW cdW fdW ldW
          replace aW := (k9.block _ (by omega)).trans aW
          replace bW := (k9.block _ (by omega)).trans bW
          replace cW := (k9.block _ (by omega)).trans cW
          clear dW
          have dW := dW9
          clear dW9
          have K9 := KZ.out.trans (k9.mono (by omega))
          have s9 := k9.size
          have R4 := Lib.hid r4
          have R69 := Lib.hid r69
          clear k9 r4 r69
          have HL8 := Lib.hid (show (wt.eraseIdx k).length = wt.length - 1 by rw [List.length_eraseIdx, if_pos hk])
          have caW := cell_of_block aW
          have faW := unfrozen_of_block aW
          have laW := lt_of_block aW
          have cbW := cell_of_block bW
          have fbW := unfrozen_of_block bW
          have lbW := lt_of_block bW
          have ccW := cell_of_block cW
          have fcW := unfrozen_of_block cW
          have lcW := lt_of_block cW
          have cdW := cell_of_block dW
          have fdW := unfrozen_of_block dW
          have ldW := lt_of_block dW
          go_wp2_with fail
          refine bodyPost_ret (v := .tuple #[.agg #[.slice b2 (dn.length + 1) d2, .slice b4 (wt.length - 1) d4, .int .i64 99], .bool true]) (by simp [results, Try.results23, go_sem, ccW]) rfl ?_
          have hp := keepA_eq (wt' := wt.eraseIdx k) (nb := 99) hA hO HIX.out (by omega) (by rw [if_pos (by omega)]; rfl) (by rw [if_pos ⟨by omega, by omega⟩]; rfl)
          rw [hp]
          unfold RetAS
          simp only [HL6.out, HL8.out]
          refine ⟨b2, d2, b4, d4, rfl, ?_, ?_, (by repeat' (first | with_reducible exact Below.refl _ _ | with_reducible assumption | with_reducible refine Below.alloc ?_ ?_ _ | with_reducible refine Below.drew ?_ | with_reducible refine Below.setCell ?_ ?_ _ | omega | (simp; omega) | (simp; done)))⟩
          · exact (((R69.out.setOther (by first | omega | (simp <;> omega)) _).setOther (by first | omega | (simp <;> omega)) _).setOther (by first | omega | (simp <;> omega)) _).low (by omega)
          · exact (((R4.out.setOther (by first | omega | (simp <;> omega)) _).setOther (by first | omega | (simp <;> omega)) _).setOther (by first | omega | (simp <;> omega)) _).low (by omega)
        · have h99' : bk < 99 := by omega
          have hRA := rowsAt_one w4 r 34
          have RA := Lib.hid hRA
          clear hRA
          go_wp2_with (at_builtin; refine wpList_append_row rfl _ _ rfl (dn.length + 1) eltReq rfl rfl (Row.alloc P0.out (.cells #[.int .i64 r.c, .int .i64 r.n, .int .i64 r.o, .int .i64 r.x, .int .i64 r.y] 34)) RA.out rfl rfl rfl (by simp only [maxLen]; omega) (by omega) (by simp <;> omega) ?_)
          intro b2 d2 w6 q6
          have aW6 := (q6.grown.block _ (by first | omega | (simp <;> omega)) (fun e => by have := HB0.out _ e.symm; omega)).trans ((Below.heap_alloc _ _ _ (by first | omega | (simp <;> omega))).trans aW)
          have bW6 := (q6.grown.block _ (by first | omega | (simp <;> omega)) (fun e => by have := HB0.out _ e.symm; omega)).trans ((Below.heap_alloc _ _ _ (by first | omega | (simp <;> omega))).trans bW)
          have cW6 := (q6.grown.block _ (by first | omega | (simp <;> omega)) (fun e => by have := HB0.out _ e.symm; omega)).trans ((Below.heap_alloc _ _ _ (by first | omega | (simp <;> omega))).trans cW)
          have dW6 := (q6.grown.block _ (by first | omega | (simp <;> omega)) (fun e => by have := HB0.out _ e.symm; omega)).trans ((Below.heap_alloc _ _ _ (by first | omega | (simp <;> omega))).trans dW)
          have s6 := q6.grown.size
          simp only [World.size_alloc] at s6
          have K6 := Lib.hid ((Below.alloc K4 (by first | omega | (simp <;> omega)) (.cells #[.int .i64 r.c, .int .i64 r.n, .int .i64 r.o, .int .i64 r.x, .int .i64 r.y] 34)).grown q6.grown (by first | omega | (simp <;> omega)) (fun g hg => by have := HB0.out g hg; omega))
          have P16 := Lib.hid ((P1.out.alloc (.cells #[.int .i64 r.c, .int .i64 r.n, .int .i64 r.o, .int .i64 r.x, .int .i64 r.y] 34)).kept q6.grown (fun g hg e => AP.out g e hg))
          have hb2 : ∀ g, rowBlk b2 d2 = some g → g ≠ w2.heap.size ∧ w1.heap.size ≤ g := fun g hg => by
            have hlow := (q6.row.blk hg).1
            refine ⟨?_, hlow⟩
            rcases q6.blk with q | q
            · have := (HB0.out g (q ▸ hg)).2; omega
            · rw [hg] at q; injection q with q; rw [World.size_alloc] at q; omega
          have HB2 := Lib.hid hb2
          have R6 := Lib.hid q6.row
          have HL6 := Lib.hid (show (dn ++ [r]).length = dn.length + 1 by simp)
          clear q6 RA hb2
          clear caW faW laW cbW fbW lbW ccW fcW lcW cdW fdW ldW
          clear aW bW cW dW
          have aW := aW6
          have bW := bW6
          have cW := cW6
          have dW := dW6
          clear aW6 bW6 cW6 dW6
          have caW := cell_of_block aW
          have faW := unfrozen_of_block aW
          have laW := lt_of_block aW
          have cbW := cell_of_block bW
          have fbW := unfrozen_of_block bW
          have lbW := lt_of_block bW
          have ccW := cell_of_block cW
          have fcW := unfrozen_of_block cW
          have lcW := lt_of_block cW
          have cdW := cell_of_block dW
          have fdW := unfrozen_of_block dW
          have ldW := lt_of_block dW
          go_wp2_with fail
          obtain ⟨Z, hZ, sZ, dZ, oZ, kZ⟩ := stored1 w6 w2.heap.size 0 (.slice b2 (dn.length + 1) d2) dW
          rw [← hZ]
          have R6Z := Lib.hid (show Row Z w1.heap.size 34 b2 d2 5 Rq.cs (dn ++ [r]) by rw [hZ]; exact R6.out.setNe (fun g hg => by have := (HB2.out g hg).1; simp only; omega) _)
          replace aW := (oZ _ (by omega)).trans aW
          replace bW := (oZ _ (by omega)).trans bW
          replace cW := (oZ _ (by omega)).trans cW
          replace dW : Z.heap[w2.heap.size]? = some (.cells #[.slice b2 (dn.length + 1) d2, .slice b1 wt.length d1, .int .i64 bk] 30 (0, 0)) := dZ
          have KZ := Lib.hid (K6.out.trans (kZ.mono (by omega)))
          clear caW faW laW cbW fbW lbW ccW fcW lcW cdW fdW ldW
          clear hZ oZ kZ dZ
          clear sZ
          have s6Z : w2.heap.size < Z.heap.size := lt_of_block dW
          have caW := cell_of_block aW
          have faW := unfrozen_of_block aW
          have laW := lt_of_block aW
          have cbW := cell_of_block bW
          have fbW := unfrozen_of_block bW
          have lbW := lt_of_block bW
          have ccW := cell_of_block cW
          have fcW := unfrozen_of_block cW
          have lcW := lt_of_block cW
          have cdW := cell_of_block dW
          have fdW := unfrozen_of_block dW
          have ldW := lt_of_block dW
          obtain ⟨ab, ao, ha1, hab, -⟩ := H1.out.bounds.2.2.2 k hk
          subst ha1
          have hlc1 := H1.out.bounds.2.1
          have hmc1 := H1.out.bounds.2.2.1
          unfold maxLen at hmc1
          have g1 : ((k : Nat) : Int) ≤ (c1 : Int) := by omega
          have g2 : ((k : Nat) : Int) + 1 ≤ (wt.length : Int) := by omega
          have g3 : ¬ c1 = 0 := by omega
          have g4 : k + 1 ≤ wt.length := by omega
          have g5 : ((k : Nat) : Int) < (wt.length : Int) := by omega
          have g6 : (wt.length : Int) ≤ (c1 : Int) := by omega
          have g7 : (0 : Int) ≤ ((k : Nat) : Int) + 1 := by omega
          have hrw := Lib.hid (H1.out.rowsAt KZ.out)
          refine wp_region_held_drew (S := fun w' => ((∀ o, w'.cell? ⟨w.heap.size, o, none⟩ = Z.cell? ⟨w.heap.size, o, none⟩) ∧ Below w2.heap.size Z w')) (by kernel_rfl) ⟨fun _ => rfl, Below.drew (Below.refl _ _)⟩ (fun hHeld => ?_)
          refine introFin2 (X := Ys) 0 #[true, true, true, true, true, true, true, true, true, true, true, true, true, true] (fun x T => (((((((((((((T.setIfInBounds 48 x.v0).setIfInBounds 49 (.pointer (some ⟨w.heap.size, 1, none⟩))).setIfInBounds 50 (.slice (some ⟨ab, ao, none⟩) wt.length c1)).setIfInBounds 51 (.int .i64 ((k : Nat) : Int))).setIfInBounds 52 x.v1).setIfInBounds 53 x.v2).setIfInBounds 54 (.pointer (some ⟨w.heap.size, 1, none⟩))).setIfInBounds 55 (.slice (some ⟨ab, ao, none⟩) wt.length c1)).setIfInBounds 56 (.int .i64 ((k : Nat) : Int))).setIfInBounds 57 (.int .i64 (((k : Nat) : Int) + 1))).setIfInBounds 58 x.v3).setIfInBounds 59 (.slice x.a (wt.length - 1) x.c)).setIfInBounds 60 (.pointer (some ⟨w2.heap.size, 1, none⟩)))) (fun x w' => Below w2.heap.size Z w' ∧ w'.heap[w2.heap.size]? = some (.cells #[.slice b2 (dn.length + 1) d2, .slice x.a (wt.length - 1) x.c, .int .i64 bk] 30 (0, 0)) ∧ Row w' Z.heap.size 34 x.a x.c 5 Rq.cs (wt.eraseIdx k) ∧ Row w' w1.heap.size 34 b2 d2 5 Rq.cs (dn ++ [r])) ?_ (fun hfin => ?_)
          rotate_left
          · obtain ⟨wd, hwd, kwd⟩ : ∃ wd, wd = Z.drew ∧ Below Z.heap.size Z wd := ⟨_, rfl, Below.drew (Below.refl _ _)⟩
            rw [← hwd] at hHeld ⊢
            clear hwd
            have sd := kwd.size
            have szd := Lib.hid sd
            refine wpAnyH_take (i := 1) (oi := _) (v := ?_) (by (simp only [List.getElem?_toArray]; rfl)) (by kernel_rfl) (by kernel_rfl) (by kernel_rfl) (by exact fun _ _ _ h => h) (Or.inl ⟨by rfl, ?_⟩) (by assumption) ?_
            rotate_left
            · intro wS hSw
              go_simp
              all_goals first | with_reducible rfl | rw [if_neg (by omega)]
            simp only [Act.put, List.setIfInBounds_toArray, List.set]
            refine wpAnyH_take (i := 2) (oi := _) (v := ?_) (by (simp only [List.getElem?_toArray]; rfl)) (by kernel_rfl) (by kernel_rfl) (by kernel_rfl) (by exact fun _ _ _ h => h) (Or.inl ⟨by rfl, ?_⟩) (by assumption) ?_
            rotate_left
            · intro wS hSw
              go_simp
              all_goals first | with_reducible rfl | rw [if_neg (by omega)]
            simp only [Act.put, List.setIfInBounds_toArray, List.set]
            refine wpAnyH_take (i := 3) (oi := _) (v := ?_) (by (simp only [List.getElem?_toArray]; rfl)) (by kernel_rfl) (by kernel_rfl) (by kernel_rfl) (by exact fun _ _ _ h => h) (Or.inl ⟨by rfl, ?_⟩) (by assumption) ?_
            rotate_left
            · intro wS hSw
              go_simp
              all_goals first | with_reducible rfl | rw [if_neg (by omega)]
            simp only [Act.put, List.setIfInBounds_toArray, List.set]
            refine wpAnyH_take (i := 4) (oi := _) (v := ?_) (by (simp only [List.getElem?_toArray]; rfl)) (by kernel_rfl) (by kernel_rfl) (by kernel_rfl) (by exact fun _ _ _ h => h) (Or.inl ⟨by rfl, ?_⟩) (by assumption) ?_
            rotate_left
            · intro wS hSw
              go_simp
              all_goals first | with_reducible rfl | rw [if_neg (by omega)]
            simp only [Act.put, List.setIfInBounds_toArray, List.set]
            refine wpAnyH_take (i := 6) (oi := _) (v := ?_) (by (simp only [List.getElem?_toArray]; rfl)) (by kernel_rfl) (by kernel_rfl) (by kernel_rfl) (by exact fun _ _ _ h => h) (Or.inl ⟨by rfl, ?_⟩) (by assumption) ?_
            rotate_left
            · intro wS hSw
              go_simp
              all_goals first | with_reducible rfl | rw [if_neg (by omega)]
            simp only [Act.put, List.setIfInBounds_toArray, List.set]
            refine wpAnyH_take (i := 7) (oi := _) (v := ?_) (by (simp only [List.getElem?_toArray]; rfl)) (by kernel_rfl) (by kernel_rfl) (by kernel_rfl) (by exact fun _ _ _ h => h) (Or.inl ⟨by rfl, ?_⟩) (by assumption) ?_
            rotate_left
            · intro wS hSw
              go_simp
              all_goals first | with_reducible rfl | rw [if_neg (by omega)]
            simp only [Act.put, List.setIfInBounds_toArray, List.set]
            refine wpAnyH_take (i := 8) (oi := _) (v := ?_) (by (simp only [List.getElem?_toArray]; rfl)) (by kernel_rfl) (by kernel_rfl) (by kernel_rfl) (by exact fun _ _ _ h => h) (Or.inl ⟨by rfl, ?_⟩) (by assumption) ?_
            rotate_left
            · intro wS hSw
              go_simp
              all_goals first | with_reducible rfl | rw [if_neg (by omega)]
            simp only [Act.put, List.setIfInBounds_toArray, List.set]
            refine wpAnyH_take (i := 9) (oi := _) (v := ?_) (by (simp only [List.getElem?_toArray]; rfl)) (by kernel_rfl) (by kernel_rfl) (by kernel_rfl) (by exact fun _ _ _ h => h) (Or.inl ⟨by rfl, ?_⟩) (by assumption) ?_
            rotate_left
            · intro wS hSw
              go_simp
              all_goals first | with_reducible rfl | rw [if_neg (by omega)]
            simp only [Act.put, List.setIfInBounds_toArray, List.set]
            refine wpAnyH_take (i := 10) (oi := _) (v := ?_) (by (simp only [List.getElem?_toArray]; rfl)) (by kernel_rfl) (by kernel_rfl) (by kernel_rfl) (by exact fun _ _ _ h => h) (Or.inl ⟨by rfl, ?_⟩) (by assumption) ?_
            rotate_left
            · intro wS hSw
              go_simp
              all_goals first | with_reducible rfl | rw [if_neg (by omega)]
            simp only [Act.put, List.setIfInBounds_toArray, List.set]
            refine wpAnyH_ready (rs := [0]) (by kernel_rfl) (by simp) ?_
            refine AllReadyH.cons (o := _) (by (simp only [List.getElem?_toArray]; rfl)) (fun K hK => ?_) AllReadyH.nil
            refine step_build0 (by rfl) (by rfl) eltReq ?_
            obtain ⟨we, hwe, swe, be, kwe⟩ := blocks1 wd (.cells #[] 34)
            rw [← hwe]
            clear hwe
            have ke := Lib.hid (below_next kwd kwe)
            refine hK.out _ _ ⟨fun o => ke.out.cell (p := ⟨w.heap.size, o, none⟩) (by show w.heap.size < Z.heap.size; omega), ke.out.mono (by omega)⟩ (fun hHeld => ?_)
            clear hK K hHeld
            simp only [Act.put, List.setIfInBounds_toArray, List.set]
            refine wpAnyH_ready (rs := [5]) (by kernel_rfl) (by simp) ?_
            refine AllReadyH.cons (o := _) (by (simp only [List.getElem?_toArray]; rfl)) (fun K hK => ?_) AllReadyH.nil
            refine step_append_new Z.heap.size (by rfl) (.tmp 48) (.tmp 52) (by rfl) eltReq (by rfl) (by rfl) ((hrw.out.take k).below (KZ.out.size |> fun _ => ke.out)) (by rw [List.length_take]; omega) (by simp only [maxLen]; omega) (by omega) (by have := ke.out.size; omega) ?_
            intro a8 c8 w8 q8
            have k8 := Lib.hid (below_next ke.out q8.below)
            refine hK.out _ _ ⟨fun o => k8.out.cell (p := ⟨w.heap.size, o, none⟩) (by show w.heap.size < Z.heap.size; omega), k8.out.mono (by omega)⟩ (fun hHeld => ?_)
            clear hK K hHeld
            simp only [Act.put, List.setIfInBounds_toArray, List.set]
            refine wpAnyH_ready (rs := [11]) (by kernel_rfl) (by simp) ?_
            refine AllReadyH.cons (o := _) (by (simp only [List.getElem?_toArray]; rfl)) (fun K hK => ?_) AllReadyH.nil
            refine step_append_elt (by rfl) (.tmp 53) (.tmp 58) (by rfl) (wt.length - 1) eltReq (by rfl) (by rfl) q8.row (ys := wt.drop (k + 1)) ((hrw.out.below k8.out).tail (k + 1) c1 (fun h => by omega)) (by rw [List.length_take]; omega) (by rw [List.length_drop]) (by omega) (by simp only [maxLen]; omega) (by omega) k8.out.size ?_
            intro a9 c9 w9 q9
            have er : wt.take k ++ wt.drop (k + 1) = wt.eraseIdx k := (List.eraseIdx_eq_take_drop_succ wt k).symm
            have r9 := q9.row
            rw [er] at r9
            have k9 : Below Z.heap.size Z w9 := k8.out.grown q9.grown k8.out.size (fun g hg => (q8.row.blk hg).1)
            have dW9 := (k9.block _ s6Z).trans dW
            have R69 := (((R6Z.out.below kwd).below kwe).below q8.below).kept q9.grown (fun g hg e => by have := (R6Z.out.blk hg).2; have := (q8.row.blk e).1; omega)
            refine hK.out _ _ ⟨fun o => k9.cell (p := ⟨w.heap.size, o, none⟩) (by show w.heap.size < Z.heap.size; omega), k9.mono (by omega)⟩ (fun hHeld => ?_)
            clear hK K
            simp only [Act.put, List.setIfInBounds_toArray, List.set]
            refine wpAnyH_take (i := 12) (oi := _) (v := ?_) (by (simp only [List.getElem?_toArray]; rfl)) (by kernel_rfl) (by kernel_rfl) (by kernel_rfl) (by exact fun _ _ _ h => h) (Or.inl ⟨by rfl, ?_⟩) (by assumption) ?_
            rotate_left
            · intro wS hSw
              go_simp
              all_goals first | with_reducible rfl | rw [if_neg (by omega)]
            simp only [Act.put, List.setIfInBounds_toArray, List.set]
            have c9W := cell_of_block dW9
            have f9W := unfrozen_of_block dW9
            refine wpAnyH_ready (rs := [13]) (by kernel_rfl) (by simp) ?_
            refine AllReadyH.cons (o := _) (by (simp only [List.getElem?_toArray]; rfl)) (fun K hK => ?_) AllReadyH.nil
            go_simp
            have kS := (k9.mono (show w2.heap.size ≤ Z.heap.size by omega)).setCell (p := ⟨w2.heap.size, 1, none⟩) (Nat.le_refl _) (.slice a9 (wt.length - 1) c9)
            refine hK.out _ _ ⟨fun o => (by rw [World.cell?_setCell_other (h := by simp <;> omega)] : _ = w9.cell? ⟨w.heap.size, o, none⟩).trans (k9.cell (p := ⟨w.heap.size, o, none⟩) (by show w.heap.size < Z.heap.size; omega)), kS⟩ (fun hHeld => ?_)
            clear hK K hHeld
            refine hfin (Ys.mk ?_ ?_ ?_ ?_ a9 c9) _ _ _ (by kernel_rfl) ?_ ⟨kS, block_setCell (i := 1) dW9 (.slice a9 (wt.length - 1) c9), r9.setOther (by simp <;> omega) _, R69.setNe (fun g hg => by have := (HB2.out g hg).1; simp only; omega) _⟩
            rotate_left 4
            simp only [List.setIfInBounds_toArray, List.set]
            rfl
          rintro ⟨v0, v1, v2, v3, b4, d4⟩ w9 ⟨k9, dW9, r4, r69⟩
          simp only at k9 dW9 r4 r69 ⊢
          simp only [List.setIfInBounds_toArray, List.set]
          refine wpAnyH_done (by kernel_rfl) ?_ _
          clear caW faW laW cbW fbW lbW ccW fcW lcW cdW fdW ldW
          replace aW := (k9.block _ (by omega)).trans aW
          replace bW := (k9.block _ (by omega)).trans bW
          replace cW := (k9.block _ (by omega)).trans cW
          clear dW
          have dW := dW9
          clear dW9
          have K9 := KZ.out.trans (k9.mono (by omega))
          have s9 := k9.size
          have R4 := Lib.hid r4
          have R69 := Lib.hid r69
          clear k9 r4 r69
          have HL8 := Lib.hid (show (wt.eraseIdx k).length = wt.length - 1 by rw [List.length_eraseIdx, if_pos hk])
          have caW := cell_of_block aW
          have faW := unfrozen_of_block aW
          have laW := lt_of_block aW
          have cbW := cell_of_block bW
          have fbW := unfrozen_of_block bW
          have lbW := lt_of_block bW
          have ccW := cell_of_block cW
          have fcW := unfrozen_of_block cW
          have lcW := lt_of_block cW
          have cdW := cell_of_block dW
          have fdW := unfrozen_of_block dW
          have ldW := lt_of_block dW
          have hb1' : IntKind.i64.wrap (bk + 1) = bk + 1 := IntWalk.i64_in _ ⟨by omega, by omega⟩
          go_wp2_with fail
          refine bodyPost_ret (v := .tuple #[.agg #[.slice b2 (dn.length + 1) d2, .slice b4 (wt.length - 1) d4, .int .i64 (bk + 1)], .bool true]) (by simp [results, Try.results23, go_sem, ccW]) rfl ?_
          have hp := keepA_eq (wt' := wt.eraseIdx k) (nb := (bk + 1)) hA hO HIX.out (by omega) (by rw [if_pos (by omega)]; rfl) (by rw [if_pos ⟨by omega, by omega⟩, if_pos (by omega)])
          rw [hp]
          unfold RetAS
          simp only [HL6.out, HL8.out]
          refine ⟨b2, d2, b4, d4, rfl, ?_, ?_, (by repeat' (first | with_reducible exact Below.refl _ _ | with_reducible assumption | with_reducible refine Below.alloc ?_ ?_ _ | with_reducible refine Below.drew ?_ | with_reducible refine Below.setCell ?_ ?_ _ | omega | (simp; omega) | (simp; done)))⟩
          · exact ((((R69.out.setNe (fun g hg => by have := (HB2.out g hg).1; simp only; omega) _).setOther (by first | omega | (simp <;> omega)) _).setOther (by first | omega | (simp <;> omega)) _).setOther (by first | omega | (simp <;> omega)) _).low (by omega)
          · exact ((((R4.out.setOther (by first | omega | (simp <;> omega)) _).setOther (by first | omega | (simp <;> omega)) _).setOther (by first | omega | (simp <;> omega)) _).setOther (by first | omega | (simp <;> omega)) _).low (by omega)
  | false =>
    go_wp2_with fail
    refine (l1None_c r.c r.n r.o r.x r.y w4).mono ?_
    rintro e w5 ⟨rfl, k5⟩
    have s5 := k5.size
    clear caW faW laW cbW fbW lbW ccW fcW lcW cdW fdW ldW
    replace aW := carryB k5 (by omega) aW
    replace bW := carryB k5 (by omega) bW
    replace cW := carryB k5 (by omega) cW
    replace dW := carryB k5 (by omega) dW
    have K5 := below_next K4 k5
    have PA0 := Lib.hid (P0.out.below k5)
    have PA1 := Lib.hid (P1.out.below k5)
    clear k5 K4 P0 P1
    have caW := cell_of_block aW
    have faW := unfrozen_of_block aW
    have laW := lt_of_block aW
    have cbW := cell_of_block bW
    have fbW := unfrozen_of_block bW
    have lbW := lt_of_block bW
    have ccW := cell_of_block cW
    have fcW := unfrozen_of_block cW
    have lcW := lt_of_block cW
    have cdW := cell_of_block dW
    have fdW := unfrozen_of_block dW
    have ldW := lt_of_block dW
    cases hN : noneB r.c r.n r.o r.x r.y with
    | false =>
      have hO : good r = false := by unfold good goodB; rw [hK, show eqR r.c r.n r.o r.x r.y 0 0 0 0 0 = false from hN]; rfl
      have hp : keepA ⟨dn, wt, bk⟩ r = (⟨dn, wt, bk⟩, false) := by unfold keepA; rw [if_pos hA, hO]; rfl
      go_wp2_with fail
      refine bodyPost_ret (v := .tuple #[.agg #[.slice b0 dn.length d0, .slice b1 wt.length d1, .int .i64 bk], .bool false]) (by simp [results, Try.results23, go_sem, ccW]) rfl ?_
      try rw [hp]
      exact ⟨b0, d0, b1, d1, rfl, (((PA0.out.setOther (by first | omega | (simp <;> omega)) _).setOther (by first | omega | (simp <;> omega)) _).setOther (by first | omega | (simp <;> omega)) _).low (by omega), (((PA1.out.setOther (by first | omega | (simp <;> omega)) _).setOther (by first | omega | (simp <;> omega)) _).setOther (by first | omega | (simp <;> omega)) _).low (by omega), (by repeat' (first | with_reducible exact Below.refl _ _ | with_reducible assumption | with_reducible refine Below.alloc ?_ ?_ _ | with_reducible refine Below.drew ?_ | with_reducible refine Below.setCell ?_ ?_ _ | omega | (simp; omega) | (simp; done)))⟩
    | true =>
      have hO : good r = true := by unfold good goodB; rw [show eqR r.c r.n r.o r.x r.y 0 0 0 0 0 = true from hN]; rfl
      rcases HX.out with hix | ⟨k, hix, hk⟩
      · subst hix
        by_cases h6 : dn.length + wt.length = 60
        · have hp : keepA ⟨dn, wt, bk⟩ r = (⟨dn, wt, bk⟩, false) := by unfold keepA; rw [if_pos hA, hO, HIX.out]; simp [h6]
          have h60' : (60 : Int) ≤ ((dn.length : Int) + (wt.length : Int)) := by omega
          go_wp2_with fail
          refine bodyPost_ret (v := .tuple #[.agg #[.slice b0 dn.length d0, .slice b1 wt.length d1, .int .i64 bk], .bool false]) (by simp [results, Try.results23, go_sem, ccW]) rfl ?_
          try rw [hp]
          exact ⟨b0, d0, b1, d1, rfl, (((PA0.out.setOther (by first | omega | (simp <;> omega)) _).setOther (by first | omega | (simp <;> omega)) _).setOther (by first | omega | (simp <;> omega)) _).low (by omega), (((PA1.out.setOther (by first | omega | (simp <;> omega)) _).setOther (by first | omega | (simp <;> omega)) _).setOther (by first | omega | (simp <;> omega)) _).low (by omega), (by repeat' (first | with_reducible exact Below.refl _ _ | with_reducible assumption | with_reducible refine Below.alloc ?_ ?_ _ | with_reducible refine Below.drew ?_ | with_reducible refine Below.setCell ?_ ?_ _ | omega | (simp; omega) | (simp; done)))⟩
        · have h60' : ¬ (60 : Int) ≤ ((dn.length : Int) + (wt.length : Int)) := by omega
          have H6 := Lib.hid h6
          clear h6
          by_cases hw0 : wt.length = 0
          · have hw0' : ¬ (0 : Int) < (wt.length : Int) := by omega
            have HW0 := Lib.hid hw0
            clear hw0
            have hRA := rowsAt_one w5 r 34
            have RA := Lib.hid hRA
            clear hRA
            go_wp2_with (at_builtin; refine wpList_append_row rfl _ _ rfl (dn.length + 1) eltReq rfl rfl (Row.alloc PA0.out (.cells #[.int .i64 r.c, .int .i64 r.n, .int .i64 r.o, .int .i64 r.x, .int .i64 r.y] 34)) RA.out rfl rfl rfl (by simp only [maxLen]; omega) (by omega) (by simp <;> omega) ?_)
            intro b2 d2 w6 q6
            have aW6 := (q6.grown.block _ (by first | omega | (simp <;> omega)) (fun e => by have := HB0.out _ e.symm; omega)).trans ((Below.heap_alloc _ _ _ (by first | omega | (simp <;> omega))).trans aW)
            have bW6 := (q6.grown.block _ (by first | omega | (simp <;> omega)) (fun e => by have := HB0.out _ e.symm; omega)).trans ((Below.heap_alloc _ _ _ (by first | omega | (simp <;> omega))).trans bW)
            have cW6 := (q6.grown.block _ (by first | omega | (simp <;> omega)) (fun e => by have := HB0.out _ e.symm; omega)).trans ((Below.heap_alloc _ _ _ (by first | omega | (simp <;> omega))).trans cW)
            have dW6 := (q6.grown.block _ (by first | omega | (simp <;> omega)) (fun e => by have := HB0.out _ e.symm; omega)).trans ((Below.heap_alloc _ _ _ (by first | omega | (simp <;> omega))).trans dW)
            have s6 := q6.grown.size
            simp only [World.size_alloc] at s6
            have K6 := Lib.hid ((Below.alloc K5 (by first | omega | (simp <;> omega)) (.cells #[.int .i64 r.c, .int .i64 r.n, .int .i64 r.o, .int .i64 r.x, .int .i64 r.y] 34)).grown q6.grown (by first | omega | (simp <;> omega)) (fun g hg => by have := HB0.out g hg; omega))
            have P16 := Lib.hid ((PA1.out.alloc (.cells #[.int .i64 r.c, .int .i64 r.n, .int .i64 r.o, .int .i64 r.x, .int .i64 r.y] 34)).kept q6.grown (fun g hg e => AP.out g e hg))
            have hb2 : ∀ g, rowBlk b2 d2 = some g → g ≠ w2.heap.size ∧ w1.heap.size ≤ g := fun g hg => by
              have hlow := (q6.row.blk hg).1
              refine ⟨?_, hlow⟩
              rcases q6.blk with q | q
              · have := (HB0.out g (q ▸ hg)).2; omega
              · rw [hg] at q; injection q with q; rw [World.size_alloc] at q; omega
            have HB2 := Lib.hid hb2
            have R6 := Lib.hid q6.row
            have HL6 := Lib.hid (show (dn ++ [r]).length = dn.length + 1 by simp)
            clear q6 RA hb2
            clear caW faW laW cbW fbW lbW ccW fcW lcW cdW fdW ldW
            clear aW bW cW dW
            have aW := aW6
            have bW := bW6
            have cW := cW6
            have dW := dW6
            clear aW6 bW6 cW6 dW6
            have caW := cell_of_block aW
            have faW := unfrozen_of_block aW
            have laW := lt_of_block aW
            have cbW := cell_of_block bW
            have fbW := unfrozen_of_block bW
            have lbW := lt_of_block bW
            have ccW := cell_of_block cW
            have fcW := unfrozen_of_block cW
            have lcW := lt_of_block cW
            have cdW := cell_of_block dW
            have fdW := unfrozen_of_block dW
            have ldW := lt_of_block dW
            go_wp2_with fail
            refine bodyPost_ret (v := .tuple #[.agg #[.slice b2 (dn.length + 1) d2, .slice b1 wt.length d1, .int .i64 bk], .bool true]) (by simp [results, Try.results23, go_sem, ccW]) rfl ?_
            have hp := keepA_eq (wt' := wt) (nb := bk) hA hO HIX.out (by have := H6.out; omega) (by rw [if_neg (by omega)]) (by rw [if_neg (by have := HW0.out; omega)])
            rw [hp]
            unfold RetAS
            simp only [HL6.out]
            have K6' := K6.out
            refine ⟨b2, d2, b1, d1, rfl, ?_, ?_, (by repeat' (first | with_reducible exact Below.refl _ _ | with_reducible assumption | with_reducible refine Below.alloc ?_ ?_ _ | with_reducible refine Below.drew ?_ | with_reducible refine Below.setCell ?_ ?_ _ | omega | (simp; omega) | (simp; done)))⟩
            · exact ((((R6.out.setNe (fun g hg => by have := (HB2.out g hg).1; simp only; omega) _).setOther (by first | omega | (simp <;> omega)) _).setOther (by first | omega | (simp <;> omega)) _).setOther (by first | omega | (simp <;> omega)) _).low (by omega)
            · exact ((((P16.out.setNe (fun g hg => by have := (HB1.out g hg).2; simp only; omega) _).setOther (by first | omega | (simp <;> omega)) _).setOther (by first | omega | (simp <;> omega)) _).setOther (by first | omega | (simp <;> omega)) _).low (by omega)
          · have hw0' : (0 : Int) < (wt.length : Int) := by omega
            by_cases h99 : bk = 99
            · subst h99
              have hRA := rowsAt_one w5 r 34
              have RA := Lib.hid hRA
              clear hRA
              go_wp2_with (at_builtin; refine wpList_append_row rfl _ _ rfl (dn.length + 1) eltReq rfl rfl (Row.alloc PA0.out (.cells #[.int .i64 r.c, .int .i64 r.n, .int .i64 r.o, .int .i64 r.x, .int .i64 r.y] 34)) RA.out rfl rfl rfl (by simp only [maxLen]; omega) (by omega) (by simp <;> omega) ?_)
              intro b2 d2 w6 q6
              have aW6 := (q6.grown.block _ (by first | omega | (simp <;> omega)) (fun e => by have := HB0.out _ e.symm; omega)).trans ((Below.heap_alloc _ _ _ (by first | omega | (simp <;> omega))).trans aW)
              have bW6 := (q6.grown.block _ (by first | omega | (simp <;> omega)) (fun e => by have := HB0.out _ e.symm; omega)).trans ((Below.heap_alloc _ _ _ (by first | omega | (simp <;> omega))).trans bW)
              have cW6 := (q6.grown.block _ (by first | omega | (simp <;> omega)) (fun e => by have := HB0.out _ e.symm; omega)).trans ((Below.heap_alloc _ _ _ (by first | omega | (simp <;> omega))).trans cW)
              have dW6 := (q6.grown.block _ (by first | omega | (simp <;> omega)) (fun e => by have := HB0.out _ e.symm; omega)).trans ((Below.heap_alloc _ _ _ (by first | omega | (simp <;> omega))).trans dW)
              have s6 := q6.grown.size
              simp only [World.size_alloc] at s6
              have K6 := Lib.hid ((Below.alloc K5 (by first | omega | (simp <;> omega)) (.cells #[.int .i64 r.c, .int .i64 r.n, .int .i64 r.o, .int .i64 r.x, .int .i64 r.y] 34)).grown q6.grown (by first | omega | (simp <;> omega)) (fun g hg => by have := HB0.out g hg; omega))
              have P16 := Lib.hid ((PA1.out.alloc (.cells #[.int .i64 r.c, .int .i64 r.n, .int .i64 r.o, .int .i64 r.x, .int .i64 r.y] 34)).kept q6.grown (fun g hg e => AP.out g e hg))
              have hb2 : ∀ g, rowBlk b2 d2 = some g → g ≠ w2.heap.size ∧ w1.heap.size ≤ g := fun g hg => by
                have hlow := (q6.row.blk hg).1
                refine ⟨?_, hlow⟩
                rcases q6.blk with q | q
                · have := (HB0.out g (q ▸ hg)).2; omega
                · rw [hg] at q; injection q with q; rw [World.size_alloc] at q; omega
              have HB2 := Lib.hid hb2
              have R6 := Lib.hid q6.row
              have HL6 := Lib.hid (show (dn ++ [r]).length = dn.length + 1 by simp)
              clear q6 RA hb2
              clear caW faW laW cbW fbW lbW ccW fcW lcW cdW fdW ldW
              clear aW bW cW dW
              have aW := aW6
              have bW := bW6
              have cW := cW6
              have dW := dW6
              clear aW6 bW6 cW6 dW6
              have caW := cell_of_block aW
              have faW := unfrozen_of_block aW
              have laW := lt_of_block aW
              have cbW := cell_of_block bW
              have fbW := unfrozen_of_block bW
              have lbW := lt_of_block bW
              have ccW := cell_of_block cW
              have fcW := unfrozen_of_block cW
              have lcW := lt_of_block cW
              have cdW := cell_of_block dW
              have fdW := unfrozen_of_block dW
              have ldW := lt_of_block dW
              go_wp2_with fail
              refine bodyPost_ret (v := .tuple #[.agg #[.slice b2 (dn.length + 1) d2, .slice b1 wt.length d1, .int .i64 99], .bool true]) (by simp [results, Try.results23, go_sem, ccW]) rfl ?_
              have hp := keepA_eq (wt' := wt) (nb := 99) hA hO HIX.out (by have := H6.out; omega) (by rw [if_neg (by omega)]) (by rw [if_pos ⟨by omega, by omega⟩]; rfl)
              rw [hp]
              unfold RetAS
              simp only [HL6.out]
              have K6' := K6.out
              refine ⟨b2, d2, b1, d1, rfl, ?_, ?_, (by repeat' (first | with_reducible exact Below.refl _ _ | with_reducible assumption | with_reducible refine Below.alloc ?_ ?_ _ | with_reducible refine Below.drew ?_ | with_reducible refine Below.setCell ?_ ?_ _ | omega | (simp; omega) | (simp; done)))⟩
              · exact ((((R6.out.setNe (fun g hg => by have := (HB2.out g hg).1; simp only; omega) _).setOther (by first | omega | (simp <;> omega)) _).setOther (by first | omega | (simp <;> omega)) _).setOther (by first | omega | (simp <;> omega)) _).low (by omega)
              · exact ((((P16.out.setNe (fun g hg => by have := (HB1.out g hg).2; simp only; omega) _).setOther (by first | omega | (simp <;> omega)) _).setOther (by first | omega | (simp <;> omega)) _).setOther (by first | omega | (simp <;> omega)) _).low (by omega)
            · have h99' : bk < 99 := by omega
              have hRA := rowsAt_one w5 r 34
              have RA := Lib.hid hRA
              clear hRA
              go_wp2_with (at_builtin; refine wpList_append_row rfl _ _ rfl (dn.length + 1) eltReq rfl rfl (Row.alloc PA0.out (.cells #[.int .i64 r.c, .int .i64 r.n, .int .i64 r.o, .int .i64 r.x, .int .i64 r.y] 34)) RA.out rfl rfl rfl (by simp only [maxLen]; omega) (by omega) (by simp <;> omega) ?_)
              intro b2 d2 w6 q6
              have aW6 := (q6.grown.block _ (by first | omega | (simp <;> omega)) (fun e => by have := HB0.out _ e.symm; omega)).trans ((Below.heap_alloc _ _ _ (by first | omega | (simp <;> omega))).trans aW)
              have bW6 := (q6.grown.block _ (by first | omega | (simp <;> omega)) (fun e => by have := HB0.out _ e.symm; omega)).trans ((Below.heap_alloc _ _ _ (by first | omega | (simp <;> omega))).trans bW)
              have cW6 := (q6.grown.block _ (by first | omega | (simp <;> omega)) (fun e => by have := HB0.out _ e.symm; omega)).trans ((Below.heap_alloc _ _ _ (by first | omega | (simp <;> omega))).trans cW)
              have dW6 := (q6.grown.block _ (by first | omega | (simp <;> omega)) (fun e => by have := HB0.out _ e.symm; omega)).trans ((Below.heap_alloc _ _ _ (by first | omega | (simp <;> omega))).trans dW)
              have s6 := q6.grown.size
              simp only [World.size_alloc] at s6
              have K6 := Lib.hid ((Below.alloc K5 (by first | omega | (simp <;> omega)) (.cells #[.int .i64 r.c, .int .i64 r.n, .int .i64 r.o, .int .i64 r.x, .int .i64 r.y] 34)).grown q6.grown (by first | omega | (simp <;> omega)) (fun g hg => by have := HB0.out g hg; omega))
              have P16 := Lib.hid ((PA1.out.alloc (.cells #[.int .i64 r.c, .int .i64 r.n, .int .i64 r.o, .int .i64 r.x, .int .i64 r.y] 34)).kept q6.grown (fun g hg e => AP.out g e hg))
              have hb2 : ∀ g, rowBlk b2 d2 = some g → g ≠ w2.heap.size ∧ w1.heap.size ≤ g := fun g hg => by
                have hlow := (q6.row.blk hg).1
                refine ⟨?_, hlow⟩
                rcases q6.blk with q | q
                · have := (HB0.out g (q ▸ hg)).2; omega
                · rw [hg] at q; injection q with q; rw [World.size_alloc] at q; omega
              have HB2 := Lib.hid hb2
              have R6 := Lib.hid q6.row
              have HL6 := Lib.hid (show (dn ++ [r]).length = dn.length + 1 by simp)
              clear q6 RA hb2
              clear caW faW laW cbW fbW lbW ccW fcW lcW cdW fdW ldW
              clear aW bW cW dW
              have aW := aW6
              have bW := bW6
              have cW := cW6
              have dW := dW6
              clear aW6 bW6 cW6 dW6
              have caW := cell_of_block aW
              have faW := unfrozen_of_block aW
              have laW := lt_of_block aW
              have cbW := cell_of_block bW
              have fbW := unfrozen_of_block bW
              have lbW := lt_of_block bW
              have ccW := cell_of_block cW
              have fcW := unfrozen_of_block cW
              have lcW := lt_of_block cW
              have cdW := cell_of_block dW
              have fdW := unfrozen_of_block dW
              have ldW := lt_of_block dW
              have hb1' : IntKind.i64.wrap (bk + 1) = bk + 1 := IntWalk.i64_in _ ⟨by omega, by omega⟩
              go_wp2_with fail
              refine bodyPost_ret (v := .tuple #[.agg #[.slice b2 (dn.length + 1) d2, .slice b1 wt.length d1, .int .i64 (bk + 1)], .bool true]) (by simp [results, Try.results23, go_sem, ccW]) rfl ?_
              have hp := keepA_eq (wt' := wt) (nb := (bk + 1)) hA hO HIX.out (by have := H6.out; omega) (by rw [if_neg (by omega)]) (by rw [if_pos ⟨by omega, by omega⟩, if_pos (by omega)])
              rw [hp]
              unfold RetAS
              simp only [HL6.out]
              have K6' := K6.out
              refine ⟨b2, d2, b1, d1, rfl, ?_, ?_, (by repeat' (first | with_reducible exact Below.refl _ _ | with_reducible assumption | with_reducible refine Below.alloc ?_ ?_ _ | with_reducible refine Below.drew ?_ | with_reducible refine Below.setCell ?_ ?_ _ | omega | (simp; omega) | (simp; done)))⟩
              · exact (((((R6.out.setNe (fun g hg => by have := (HB2.out g hg).1; simp only; omega) _).setNe (fun g hg => by have := (HB2.out g hg).1; simp only; omega) _).setOther (by first | omega | (simp <;> omega)) _).setOther (by first | omega | (simp <;> omega)) _).setOther (by first | omega | (simp <;> omega)) _).low (by omega)
              · exact (((((P16.out.setNe (fun g hg => by have := (HB1.out g hg).2; simp only; omega) _).setNe (fun g hg => by have := (HB1.out g hg).2; simp only; omega) _).setOther (by first | omega | (simp <;> omega)) _).setOther (by first | omega | (simp <;> omega)) _).setOther (by first | omega | (simp <;> omega)) _).low (by omega)
      · subst hix
        have hx0 : ¬ ((k : Nat) : Int) < 0 := by omega
        have hx1 : (0 : Int) ≤ ((k : Nat) : Int) := by omega
        have hw0' : (0 : Int) < (wt.length : Int) := by omega
        by_cases hk0 : k = 0
        · subst hk0
          have hRA := rowsAt_one w5 r 34
          have RA := Lib.hid hRA
          clear hRA
          go_wp2_with (at_builtin; refine wpList_append_row rfl _ _ rfl (dn.length + 1) eltReq rfl rfl (Row.alloc PA0.out (.cells #[.int .i64 r.c, .int .i64 r.n, .int .i64 r.o, .int .i64 r.x, .int .i64 r.y] 34)) RA.out rfl rfl rfl (by simp only [maxLen]; omega) (by omega) (by simp <;> omega) ?_)
          intro b2 d2 w6 q6
          have aW6 := (q6.grown.block _ (by first | omega | (simp <;> omega)) (fun e => by have := HB0.out _ e.symm; omega)).trans ((Below.heap_alloc _ _ _ (by first | omega | (simp <;> omega))).trans aW)
          have bW6 := (q6.grown.block _ (by first | omega | (simp <;> omega)) (fun e => by have := HB0.out _ e.symm; omega)).trans ((Below.heap_alloc _ _ _ (by first | omega | (simp <;> omega))).trans bW)
          have cW6 := (q6.grown.block _ (by first | omega | (simp <;> omega)) (fun e => by have := HB0.out _ e.symm; omega)).trans ((Below.heap_alloc _ _ _ (by first | omega | (simp <;> omega))).trans cW)
          have dW6 := (q6.grown.block _ (by first | omega | (simp <;> omega)) (fun e => by have := HB0.out _ e.symm; omega)).trans ((Below.heap_alloc _ _ _ (by first | omega | (simp <;> omega))).trans dW)
          have s6 := q6.grown.size
          simp only [World.size_alloc] at s6
          have K6 := Lib.hid ((Below.alloc K5 (by first | omega | (simp <;> omega)) (.cells #[.int .i64 r.c, .int .i64 r.n, .int .i64 r.o, .int .i64 r.x, .int .i64 r.y] 34)).grown q6.grown (by first | omega | (simp <;> omega)) (fun g hg => by have := HB0.out g hg; omega))
          have P16 := Lib.hid ((PA1.out.alloc (.cells #[.int .i64 r.c, .int .i64 r.n, .int .i64 r.o, .int .i64 r.x, .int .i64 r.y] 34)).kept q6.grown (fun g hg e => AP.out g e hg))
          have hb2 : ∀ g, rowBlk b2 d2 = some g → g ≠ w2.heap.size ∧ w1.heap.size ≤ g := fun g hg => by
            have hlow := (q6.row.blk hg).1
            refine ⟨?_, hlow⟩
            rcases q6.blk with q | q
            · have := (HB0.out g (q ▸ hg)).2; omega
            · rw [hg] at q; injection q with q; rw [World.size_alloc] at q; omega
          have HB2 := Lib.hid hb2
          have R6 := Lib.hid q6.row
          have HL6 := Lib.hid (show (dn ++ [r]).length = dn.length + 1 by simp)
          clear q6 RA hb2
          clear caW faW laW cbW fbW lbW ccW fcW lcW cdW fdW ldW
          clear aW bW cW dW
          have aW := aW6
          have bW := bW6
          have cW := cW6
          have dW := dW6
          clear aW6 bW6 cW6 dW6
          have caW := cell_of_block aW
          have faW := unfrozen_of_block aW
          have laW := lt_of_block aW
          have cbW := cell_of_block bW
          have fbW := unfrozen_of_block bW
          have lbW := lt_of_block bW
          have ccW := cell_of_block cW
          have fcW := unfrozen_of_block cW
          have lcW := lt_of_block cW
          have cdW := cell_of_block dW
          have fdW := unfrozen_of_block dW
          have ldW := lt_of_block dW
          go_wp2_with fail
          obtain ⟨Z, hZ, sZ, dZ, oZ, kZ⟩ := stored1 w6 w2.heap.size 0 (.slice b2 (dn.length + 1) d2) dW
          rw [← hZ]
          have R6Z := Lib.hid (show Row Z w1.heap.size 34 b2 d2 5 Rq.cs (dn ++ [r]) by rw [hZ]; exact R6.out.setNe (fun g hg => by have := (HB2.out g hg).1; simp only; omega) _)
          replace aW := (oZ _ (by omega)).trans aW
          replace bW := (oZ _ (by omega)).trans bW
          replace cW := (oZ _ (by omega)).trans cW
          replace dW : Z.heap[w2.heap.size]? = some (.cells #[.slice b2 (dn.length + 1) d2, .slice b1 wt.length d1, .int .i64 bk] 30 (0, 0)) := dZ
          have KZ := Lib.hid (K6.out.trans (kZ.mono (by omega)))
          clear caW faW laW cbW fbW lbW ccW fcW lcW cdW fdW ldW
          clear hZ oZ kZ dZ
          clear sZ
          have s6Z : w2.heap.size < Z.heap.size := lt_of_block dW
          have caW := cell_of_block aW
          have faW := unfrozen_of_block aW
          have laW := lt_of_block aW
          have cbW := cell_of_block bW
          have fbW := unfrozen_of_block bW
          have lbW := lt_of_block bW
          have ccW := cell_of_block cW
          have fcW := unfrozen_of_block cW
          have lcW := lt_of_block cW
          have cdW := cell_of_block dW
          have fdW := unfrozen_of_block dW
          have ldW := lt_of_block dW
          obtain ⟨ab, ao, ha1, hab, -⟩ := H1.out.bounds.2.2.2 0 hk
          subst ha1
          have hlc1 := H1.out.bounds.2.1
          have hmc1 := H1.out.bounds.2.2.1
          unfold maxLen at hmc1
          have g1 : ((0 : Nat) : Int) ≤ (c1 : Int) := by omega
          have g2 : ((0 : Nat) : Int) + 1 ≤ (wt.length : Int) := by omega
          have g3 : ¬ c1 = 0 := by omega
          have g4 : 0 + 1 ≤ wt.length := by omega
          have g5 : ((0 : Nat) : Int) < (wt.length : Int) := by omega
          have g6 : (wt.length : Int) ≤ (c1 : Int) := by omega
          have g7 : IntKind.i64.wrap 1 = 1 := by decide
          have g8 : (1 : Int) ≤ (wt.length : Int) := by omega
          have hrw := Lib.hid (H1.out.rowsAt KZ.out)
          refine wp_region_held_drew (S := fun w' => ((∀ o, w'.cell? ⟨w.heap.size, o, none⟩ = Z.cell? ⟨w.heap.size, o, none⟩) ∧ Below w2.heap.size Z w')) (by kernel_rfl) ⟨fun _ => rfl, Below.drew (Below.refl _ _)⟩ (fun hHeld => ?_)
          refine introFin2 (X := Ys) 0 #[true, true, true, true, true, true, true, true, true, true, true, true, true, true] (fun x T => (((((((((((((T.setIfInBounds 48 x.v0).setIfInBounds 49 (.pointer (some ⟨w.heap.size, 1, none⟩))).setIfInBounds 50 (.slice (some ⟨ab, ao, none⟩) wt.length c1)).setIfInBounds 51 (.int .i64 0)).setIfInBounds 52 x.v1).setIfInBounds 53 x.v2).setIfInBounds 54 (.pointer (some ⟨w.heap.size, 1, none⟩))).setIfInBounds 55 (.slice (some ⟨ab, ao, none⟩) wt.length c1)).setIfInBounds 56 (.int .i64 0)).setIfInBounds 57 (.int .i64 1)).setIfInBounds 58 x.v3).setIfInBounds 59 (.slice x.a (wt.length - 1) x.c)).setIfInBounds 60 (.pointer (some ⟨w2.heap.size, 1, none⟩)))) (fun x w' => Below w2.heap.size Z w' ∧ w'.heap[w2.heap.size]? = some (.cells #[.slice b2 (dn.length + 1) d2, .slice x.a (wt.length - 1) x.c, .int .i64 bk] 30 (0, 0)) ∧ Row w' Z.heap.size 34 x.a x.c 5 Rq.cs (wt.eraseIdx 0) ∧ Row w' w1.heap.size 34 b2 d2 5 Rq.cs (dn ++ [r])) ?_ (fun hfin => ?_)
          rotate_left
          · obtain ⟨wd, hwd, kwd⟩ : ∃ wd, wd = Z.drew ∧ Below Z.heap.size Z wd := ⟨_, rfl, Below.drew (Below.refl _ _)⟩
            rw [← hwd] at hHeld ⊢
            clear hwd
            have sd := kwd.size
            have szd := Lib.hid sd
            refine wpAnyH_take (i := 1) (oi := _) (v := ?_) (by (simp only [List.getElem?_toArray]; rfl)) (by kernel_rfl) (by kernel_rfl) (by kernel_rfl) (by exact fun _ _ _ h => h) (Or.inl ⟨by rfl, ?_⟩) (by assumption) ?_
            rotate_left
            · intro wS hSw
              go_simp
              all_goals first | with_reducible rfl | rw [if_neg (by omega)]
            simp only [Act.put, List.setIfInBounds_toArray, List.set]
            refine wpAnyH_take (i := 2) (oi := _) (v := ?_) (by (simp only [List.getElem?_toArray]; rfl)) (by kernel_rfl) (by kernel_rfl) (by kernel_rfl) (by exact fun _ _ _ h => h) (Or.inl ⟨by rfl, ?_⟩) (by assumption) ?_
            rotate_left
            · intro wS hSw
              go_simp
              all_goals first | with_reducible rfl | rw [if_neg (by omega)]
            simp only [Act.put, List.setIfInBounds_toArray, List.set]
            refine wpAnyH_take (i := 3) (oi := _) (v := ?_) (by (simp only [List.getElem?_toArray]; rfl)) (by kernel_rfl) (by kernel_rfl) (by kernel_rfl) (by exact fun _ _ _ h => h) (Or.inl ⟨by rfl, ?_⟩) (by assumption) ?_
            rotate_left
            · intro wS hSw
              go_simp
              all_goals first | with_reducible rfl | rw [if_neg (by omega)]
            simp only [Act.put, List.setIfInBounds_toArray, List.set]
            refine wpAnyH_take (i := 4) (oi := _) (v := ?_) (by (simp only [List.getElem?_toArray]; rfl)) (by kernel_rfl) (by kernel_rfl) (by kernel_rfl) (by exact fun _ _ _ h => h) (Or.inl ⟨by rfl, ?_⟩) (by assumption) ?_
            rotate_left
            · intro wS hSw
              go_simp
              all_goals first | with_reducible rfl | rw [if_neg (by omega)]
            simp only [Act.put, List.setIfInBounds_toArray, List.set]
            refine wpAnyH_take (i := 6) (oi := _) (v := ?_) (by (simp only [List.getElem?_toArray]; rfl)) (by kernel_rfl) (by kernel_rfl) (by kernel_rfl) (by exact fun _ _ _ h => h) (Or.inl ⟨by rfl, ?_⟩) (by assumption) ?_
            rotate_left
            · intro wS hSw
              go_simp
              all_goals first | with_reducible rfl | rw [if_neg (by omega)]
            simp only [Act.put, List.setIfInBounds_toArray, List.set]
            refine wpAnyH_take (i := 7) (oi := _) (v := ?_) (by (simp only [List.getElem?_toArray]; rfl)) (by kernel_rfl) (by kernel_rfl) (by kernel_rfl) (by exact fun _ _ _ h => h) (Or.inl ⟨by rfl, ?_⟩) (by assumption) ?_
            rotate_left
            · intro wS hSw
              go_simp
              all_goals first | with_reducible rfl | rw [if_neg (by omega)]
            simp only [Act.put, List.setIfInBounds_toArray, List.set]
            refine wpAnyH_take (i := 8) (oi := _) (v := ?_) (by (simp only [List.getElem?_toArray]; rfl)) (by kernel_rfl) (by kernel_rfl) (by kernel_rfl) (by exact fun _ _ _ h => h) (Or.inl ⟨by rfl, ?_⟩) (by assumption) ?_
            rotate_left
            · intro wS hSw
              go_simp
              all_goals first | with_reducible rfl | rw [if_neg (by omega)]
            simp only [Act.put, List.setIfInBounds_toArray, List.set]
            refine wpAnyH_take (i := 9) (oi := _) (v := ?_) (by (simp only [List.getElem?_toArray]; rfl)) (by kernel_rfl) (by kernel_rfl) (by kernel_rfl) (by exact fun _ _ _ h => h) (Or.inl ⟨by rfl, ?_⟩) (by assumption) ?_
            rotate_left
            · intro wS hSw
              go_simp
              all_goals first | with_reducible rfl | rw [if_neg (by omega)]
            simp only [Act.put, List.setIfInBounds_toArray, List.set]
            refine wpAnyH_take (i := 10) (oi := _) (v := ?_) (by (simp only [List.getElem?_toArray]; rfl)) (by kernel_rfl) (by kernel_rfl) (by kernel_rfl) (by exact fun _ _ _ h => h) (Or.inl ⟨by rfl, ?_⟩) (by assumption) ?_
            rotate_left
            · intro wS hSw
              go_simp
              all_goals first | with_reducible rfl | rw [if_neg (by omega)]
            simp only [Act.put, List.setIfInBounds_toArray, List.set]
            refine wpAnyH_ready (rs := [0]) (by kernel_rfl) (by simp) ?_
            refine AllReadyH.cons (o := _) (by (simp only [List.getElem?_toArray]; rfl)) (fun K hK => ?_) AllReadyH.nil
            refine step_build0 (by rfl) (by rfl) eltReq ?_
            obtain ⟨we, hwe, swe, be, kwe⟩ := blocks1 wd (.cells #[] 34)
            rw [← hwe]
            clear hwe
            have ke := Lib.hid (below_next kwd kwe)
            refine hK.out _ _ ⟨fun o => ke.out.cell (p := ⟨w.heap.size, o, none⟩) (by show w.heap.size < Z.heap.size; omega), ke.out.mono (by omega)⟩ (fun hHeld => ?_)
            clear hK K hHeld
            simp only [Act.put, List.setIfInBounds_toArray, List.set]
            refine wpAnyH_ready (rs := [5]) (by kernel_rfl) (by simp) ?_
            refine AllReadyH.cons (o := _) (by (simp only [List.getElem?_toArray]; rfl)) (fun K hK => ?_) AllReadyH.nil
            refine step_append_new Z.heap.size (by rfl) (.tmp 48) (.tmp 52) (by rfl) eltReq (by rfl) (by rfl) ((hrw.out.take 0).below (KZ.out.size |> fun _ => ke.out)) (by rw [List.length_take]; omega) (by simp only [maxLen]; omega) (by omega) (by have := ke.out.size; omega) ?_
            intro a8 c8 w8 q8
            have k8 := Lib.hid (below_next ke.out q8.below)
            refine hK.out _ _ ⟨fun o => k8.out.cell (p := ⟨w.heap.size, o, none⟩) (by show w.heap.size < Z.heap.size; omega), k8.out.mono (by omega)⟩ (fun hHeld => ?_)
            clear hK K hHeld
            simp only [Act.put, List.setIfInBounds_toArray, List.set]
            refine wpAnyH_ready (rs := [11]) (by kernel_rfl) (by simp) ?_
            refine AllReadyH.cons (o := _) (by (simp only [List.getElem?_toArray]; rfl)) (fun K hK => ?_) AllReadyH.nil
            refine step_append_elt (by rfl) (.tmp 53) (.tmp 58) (by rfl) (wt.length - 1) eltReq (by rfl) (by rfl) q8.row (ys := wt.drop (0 + 1)) ((hrw.out.below k8.out).tail (0 + 1) c1 (fun h => by omega)) (by rw [List.length_take]; omega) (by rw [List.length_drop]) (by omega) (by simp only [maxLen]; omega) (by omega) k8.out.size ?_
            intro a9 c9 w9 q9
            have er : wt.take 0 ++ wt.drop (0 + 1) = wt.eraseIdx 0 := (List.eraseIdx_eq_take_drop_succ wt 0).symm
            have r9 := q9.row
            rw [er] at r9
            have k9 : Below Z.heap.size Z w9 := k8.out.grown q9.grown k8.out.size (fun g hg => (q8.row.blk hg).1)
            have dW9 := (k9.block _ s6Z).trans dW
            have R69 := (((R6Z.out.below kwd).below kwe).below q8.below).kept q9.grown (fun g hg e => by have := (R6Z.out.blk hg).2; have := (q8.row.blk e).1; omega)
            refine hK.out _ _ ⟨fun o => k9.cell (p := ⟨w.heap.size, o, none⟩) (by show w.heap.size < Z.heap.size; omega), k9.mono (by omega)⟩ (fun hHeld => ?_)
            clear hK K
            simp only [Act.put, List.setIfInBounds_toArray, List.set]
            refine wpAnyH_take (i := 12) (oi := _) (v := ?_) (by (simp only [List.getElem?_toArray]; rfl)) (by kernel_rfl) (by kernel_rfl) (by kernel_rfl) (by exact fun _ _ _ h => h) (Or.inl ⟨by rfl, ?_⟩) (by assumption) ?_
            rotate_left
            · intro wS hSw
              go_simp
              all_goals first | with_reducible rfl | rw [if_neg (by omega)]
            simp only [Act.put, List.setIfInBounds_toArray, List.set]
            have c9W := cell_of_block dW9
            have f9W := unfrozen_of_block dW9
            refine wpAnyH_ready (rs := [13]) (by kernel_rfl) (by simp) ?_
            refine AllReadyH.cons (o := _) (by (simp only [List.getElem?_toArray]; rfl)) (fun K hK => ?_) AllReadyH.nil
            go_simp
            have kS := (k9.mono (show w2.heap.size ≤ Z.heap.size by omega)).setCell (p := ⟨w2.heap.size, 1, none⟩) (Nat.le_refl _) (.slice a9 (wt.length - 1) c9)
            refine hK.out _ _ ⟨fun o => (by rw [World.cell?_setCell_other (h := by simp <;> omega)] : _ = w9.cell? ⟨w.heap.size, o, none⟩).trans (k9.cell (p := ⟨w.heap.size, o, none⟩) (by show w.heap.size < Z.heap.size; omega)), kS⟩ (fun hHeld => ?_)
            clear hK K hHeld
            refine hfin (Ys.mk ?_ ?_ ?_ ?_ a9 c9) _ _ _ (by kernel_rfl) ?_ ⟨kS, block_setCell (i := 1) dW9 (.slice a9 (wt.length - 1) c9), r9.setOther (by simp <;> omega) _, R69.setNe (fun g hg => by have := (HB2.out g hg).1; simp only; omega) _⟩
            rotate_left 4
            simp only [List.setIfInBounds_toArray, List.set]
            rfl
          rintro ⟨v0, v1, v2, v3, b4, d4⟩ w9 ⟨k9, dW9, r4, r69⟩
          simp only at k9 dW9 r4 r69 ⊢
          simp only [List.setIfInBounds_toArray, List.set]
          refine wpAnyH_done (by kernel_rfl) ?_ _
          clear caW faW laW cbW fbW lbW ccW fcW lcW cdW fdW ldW
          replace aW := (k9.block _ (by omega)).trans aW
          replace bW := (k9.block _ (by omega)).trans bW
          replace cW := (k9.block _ (by omega)).trans cW
          clear dW
          have dW := dW9
          clear dW9
          have K9 := KZ.out.trans (k9.mono (by omega))
          have s9 := k9.size
          have R4 := Lib.hid r4
          have R69 := Lib.hid r69
          clear k9 r4 r69
          have HL8 := Lib.hid (show (wt.eraseIdx 0).length = wt.length - 1 by rw [List.length_eraseIdx, if_pos hk])
          have caW := cell_of_block aW
          have faW := unfrozen_of_block aW
          have laW := lt_of_block aW
          have cbW := cell_of_block bW
          have fbW := unfrozen_of_block bW
          have lbW := lt_of_block bW
          have ccW := cell_of_block cW
          have fcW := unfrozen_of_block cW
          have lcW := lt_of_block cW
          have cdW := cell_of_block dW
          have fdW := unfrozen_of_block dW
          have ldW := lt_of_block dW
          go_wp2_with fail
          refine bodyPost_ret (v := .tuple #[.agg #[.slice b2 (dn.length + 1) d2, .slice b4 (wt.length - 1) d4, .int .i64 bk], .bool true]) (by simp [results, Try.results23, go_sem, ccW]) rfl ?_
          have hp := keepA_eq (wt' := wt.eraseIdx 0) (nb := bk) hA hO HIX.out (by omega) (by rw [if_pos (by omega)]; rfl) (by rw [if_neg (by omega)])
          rw [hp]
          unfold RetAS
          simp only [HL6.out, HL8.out]
          refine ⟨b2, d2, b4, d4, rfl, ?_, ?_, (by repeat' (first | with_reducible exact Below.refl _ _ | with_reducible assumption | with_reducible refine Below.alloc ?_ ?_ _ | with_reducible refine Below.drew ?_ | with_reducible refine Below.setCell ?_ ?_ _ | omega | (simp; omega) | (simp; done)))⟩
          · exact (((R69.out.setOther (by first | omega | (simp <;> omega)) _).setOther (by first | omega | (simp <;> omega)) _).setOther (by first | omega | (simp <;> omega)) _).low (by omega)
          · exact (((R4.out.setOther (by first | omega | (simp <;> omega)) _).setOther (by first | omega | (simp <;> omega)) _).setOther (by first | omega | (simp <;> omega)) _).low (by omega)
        · have hk0' : ¬ ((k : Nat) : Int) = 0 := by omega
          have hwk : IntKind.i64.wrap ((k : Int) + 1) = (k : Int) + 1 := IntWalk.i64_in _ ⟨by omega, by omega⟩
          by_cases h99 : bk = 99
          · subst h99
            have hRA := rowsAt_one w5 r 34
            have RA := Lib.hid hRA
            clear hRA
            go_wp2_with (at_builtin; refine wpList_append_row rfl _ _ rfl (dn.length + 1) eltReq rfl rfl (Row.alloc PA0.out (.cells #[.int .i64 r.c, .int .i64 r.n, .int .i64 r.o, .int .i64 r.x, .int .i64 r.y] 34)) RA.out rfl rfl rfl (by simp only [maxLen]; omega) (by omega) (by simp <;> omega) ?_)
            intro b2 d2 w6 q6
            have aW6 := (q6.grown.block _ (by first | omega | (simp <;> omega)) (fun e => by have := HB0.out _ e.symm; omega)).trans ((Below.heap_alloc _ _ _ (by first | omega | (simp <;> omega))).trans aW)
            have bW6 := (q6.grown.block _ (by first | omega | (simp <;> omega)) (fun e => by have := HB0.out _ e.symm; omega)).trans ((Below.heap_alloc _ _ _ (by first | omega | (simp <;> omega))).trans bW)
            have cW6 := (q6.grown.block _ (by first | omega | (simp <;> omega)) (fun e => by have := HB0.out _ e.symm; omega)).trans ((Below.heap_alloc _ _ _ (by first | omega | (simp <;> omega))).trans cW)
            have dW6 := (q6.grown.block _ (by first | omega | (simp <;> omega)) (fun e => by have := HB0.out _ e.symm; omega)).trans ((Below.heap_alloc _ _ _ (by first | omega | (simp <;> omega))).trans dW)
            have s6 := q6.grown.size
            simp only [World.size_alloc] at s6
            have K6 := Lib.hid ((Below.alloc K5 (by first | omega | (simp <;> omega)) (.cells #[.int .i64 r.c, .int .i64 r.n, .int .i64 r.o, .int .i64 r.x, .int .i64 r.y] 34)).grown q6.grown (by first | omega | (simp <;> omega)) (fun g hg => by have := HB0.out g hg; omega))
            have P16 := Lib.hid ((PA1.out.alloc (.cells #[.int .i64 r.c, .int .i64 r.n, .int .i64 r.o, .int .i64 r.x, .int .i64 r.y] 34)).kept q6.grown (fun g hg e => AP.out g e hg))
            have hb2 : ∀ g, rowBlk b2 d2 = some g → g ≠ w2.heap.size ∧ w1.heap.size ≤ g := fun g hg => by
              have hlow := (q6.row.blk hg).1
              refine ⟨?_, hlow⟩
              rcases q6.blk with q | q
              · have := (HB0.out g (q ▸ hg)).2; omega
              · rw [hg] at q; injection q with q; rw [World.size_alloc] at q; omega
            have HB2 := Lib.hid hb2
            have R6 := Lib.hid q6.row
            have HL6 := Lib.hid (show (dn ++ [r]).length = dn.length + 1 by simp)
            clear q6 RA hb2
            clear caW faW laW cbW fbW lbW ccW fcW lcW cdW fdW ldW
            clear aW bW cW dW
            have aW := aW6
            have bW := bW6
            have cW := cW6
            have dW := dW6
            clear aW6 bW6 cW6 dW6
            have caW := cell_of_block aW
            have faW := unfrozen_of_block aW
            have laW := lt_of_block aW
            have cbW := cell_of_block bW
            have fbW := unfrozen_of_block bW
            have lbW := lt_of_block bW
            have ccW := cell_of_block cW
            have fcW := unfrozen_of_block cW
            have lcW := lt_of_block cW
            have cdW := cell_of_block dW
            have fdW := unfrozen_of_block dW
            have ldW := lt_of_block dW
            go_wp2_with fail
            obtain ⟨Z, hZ, sZ, dZ, oZ, kZ⟩ := stored1 w6 w2.heap.size 0 (.slice b2 (dn.length + 1) d2) dW
            rw [← hZ]
            have R6Z := Lib.hid (show Row Z w1.heap.size 34 b2 d2 5 Rq.cs (dn ++ [r]) by rw [hZ]; exact R6.out.setNe (fun g hg => by have := (HB2.out g hg).1; simp only; omega) _)
            replace aW := (oZ _ (by omega)).trans aW
            replace bW := (oZ _ (by omega)).trans bW
            replace cW := (oZ _ (by omega)).trans cW
            replace dW : Z.heap[w2.heap.size]? = some (.cells #[.slice b2 (dn.length + 1) d2, .slice b1 wt.length d1, .int .i64 99] 30 (0, 0)) := dZ
            have KZ := Lib.hid (K6.out.trans (kZ.mono (by omega)))
            clear caW faW laW cbW fbW lbW ccW fcW lcW cdW fdW ldW
            clear hZ oZ kZ dZ
            clear sZ
            have s6Z : w2.heap.size < Z.heap.size := lt_of_block dW
            have caW := cell_of_block aW
            have faW := unfrozen_of_block aW
            have laW := lt_of_block aW
            have cbW := cell_of_block bW
            have fbW := unfrozen_of_block bW
            have lbW := lt_of_block bW
            have ccW := cell_of_block cW
            have fcW := unfrozen_of_block cW
            have lcW := lt_of_block cW
            have cdW := cell_of_block dW
            have fdW := unfrozen_of_block dW
            have ldW := lt_of_block dW
            obtain ⟨ab, ao, ha1, hab, -⟩ := H1.out.bounds.2.2.2 k hk
            subst ha1
            have hlc1 := H1.out.bounds.2.1
            have hmc1 := H1.out.bounds.2.2.1
            unfold maxLen at hmc1
            have g1 : ((k : Nat) : Int) ≤ (c1 : Int) := by omega
            have g2 : ((k : Nat) : Int) + 1 ≤ (wt.length : Int) := by omega
            have g3 : ¬ c1 = 0 := by omega
            have g4 : k + 1 ≤ wt.length := by omega
            have g5 : ((k : Nat) : Int) < (wt.length : Int) := by omega
            have g6 : (wt.length : Int) ≤ (c1 : Int) := by omega
            have g7 : (0 : Int) ≤ ((k : Nat) : Int) + 1 := by omega
            have hrw := Lib.hid (H1.out.rowsAt KZ.out)
            refine wp_region_held_drew (S := fun w' => ((∀ o, w'.cell? ⟨w.heap.size, o, none⟩ = Z.cell? ⟨w.heap.size, o, none⟩) ∧ Below w2.heap.size Z w')) (by kernel_rfl) ⟨fun _ => rfl, Below.drew (Below.refl _ _)⟩ (fun hHeld => ?_)
            refine introFin2 (X := Ys) 0 #[true, true, true, true, true, true, true, true, true, true, true, true, true, true] (fun x T => (((((((((((((T.setIfInBounds 48 x.v0).setIfInBounds 49 (.pointer (some ⟨w.heap.size, 1, none⟩))).setIfInBounds 50 (.slice (some ⟨ab, ao, none⟩) wt.length c1)).setIfInBounds 51 (.int .i64 ((k : Nat) : Int))).setIfInBounds 52 x.v1).setIfInBounds 53 x.v2).setIfInBounds 54 (.pointer (some ⟨w.heap.size, 1, none⟩))).setIfInBounds 55 (.slice (some ⟨ab, ao, none⟩) wt.length c1)).setIfInBounds 56 (.int .i64 ((k : Nat) : Int))).setIfInBounds 57 (.int .i64 (((k : Nat) : Int) + 1))).setIfInBounds 58 x.v3).setIfInBounds 59 (.slice x.a (wt.length - 1) x.c)).setIfInBounds 60 (.pointer (some ⟨w2.heap.size, 1, none⟩)))) (fun x w' => Below w2.heap.size Z w' ∧ w'.heap[w2.heap.size]? = some (.cells #[.slice b2 (dn.length + 1) d2, .slice x.a (wt.length - 1) x.c, .int .i64 99] 30 (0, 0)) ∧ Row w' Z.heap.size 34 x.a x.c 5 Rq.cs (wt.eraseIdx k) ∧ Row w' w1.heap.size 34 b2 d2 5 Rq.cs (dn ++ [r])) ?_ (fun hfin => ?_)
            rotate_left
            · obtain ⟨wd, hwd, kwd⟩ : ∃ wd, wd = Z.drew ∧ Below Z.heap.size Z wd := ⟨_, rfl, Below.drew (Below.refl _ _)⟩
              rw [← hwd] at hHeld ⊢
              clear hwd
              have sd := kwd.size
              have szd := Lib.hid sd
              refine wpAnyH_take (i := 1) (oi := _) (v := ?_) (by (simp only [List.getElem?_toArray]; rfl)) (by kernel_rfl) (by kernel_rfl) (by kernel_rfl) (by exact fun _ _ _ h => h) (Or.inl ⟨by rfl, ?_⟩) (by assumption) ?_
              rotate_left
              · intro wS hSw
                go_simp
                all_goals first | with_reducible rfl | rw [if_neg (by omega)]
              simp only [Act.put, List.setIfInBounds_toArray, List.set]
              refine wpAnyH_take (i := 2) (oi := _) (v := ?_) (by (simp only [List.getElem?_toArray]; rfl)) (by kernel_rfl) (by kernel_rfl) (by kernel_rfl) (by exact fun _ _ _ h => h) (Or.inl ⟨by rfl, ?_⟩) (by assumption) ?_
              rotate_left
              · intro wS hSw
                go_simp
                all_goals first | with_reducible rfl | rw [if_neg (by omega)]
              simp only [Act.put, List.setIfInBounds_toArray, List.set]
              refine wpAnyH_take (i := 3) (oi := _) (v := ?_) (by (simp only [List.getElem?_toArray]; rfl)) (by kernel_rfl) (by kernel_rfl) (by kernel_rfl) (by exact fun _ _ _ h => h) (Or.inl ⟨by rfl, ?_⟩) (by assumption) ?_
              rotate_left
              · intro wS hSw
                go_simp
                all_goals first | with_reducible rfl | rw [if_neg (by omega)]
              simp only [Act.put, List.setIfInBounds_toArray, List.set]
              refine wpAnyH_take (i := 4) (oi := _) (v := ?_) (by (simp only [List.getElem?_toArray]; rfl)) (by kernel_rfl) (by kernel_rfl) (by kernel_rfl) (by exact fun _ _ _ h => h) (Or.inl ⟨by rfl, ?_⟩) (by assumption) ?_
              rotate_left
              · intro wS hSw
                go_simp
                all_goals first | with_reducible rfl | rw [if_neg (by omega)]
              simp only [Act.put, List.setIfInBounds_toArray, List.set]
              refine wpAnyH_take (i := 6) (oi := _) (v := ?_) (by (simp only [List.getElem?_toArray]; rfl)) (by kernel_rfl) (by kernel_rfl) (by kernel_rfl) (by exact fun _ _ _ h => h) (Or.inl ⟨by rfl, ?_⟩) (by assumption) ?_
              rotate_left
              · intro wS hSw
                go_simp
                all_goals first | with_reducible rfl | rw [if_neg (by omega)]
              simp only [Act.put, List.setIfInBounds_toArray, List.set]
              refine wpAnyH_take (i := 7) (oi := _) (v := ?_) (by (simp only [List.getElem?_toArray]; rfl)) (by kernel_rfl) (by kernel_rfl) (by kernel_rfl) (by exact fun _ _ _ h => h) (Or.inl ⟨by rfl, ?_⟩) (by assumption) ?_
              rotate_left
              · intro wS hSw
                go_simp
                all_goals first | with_reducible rfl | rw [if_neg (by omega)]
              simp only [Act.put, List.setIfInBounds_toArray, List.set]
              refine wpAnyH_take (i := 8) (oi := _) (v := ?_) (by (simp only [List.getElem?_toArray]; rfl)) (by kernel_rfl) (by kernel_rfl) (by kernel_rfl) (by exact fun _ _ _ h => h) (Or.inl ⟨by rfl, ?_⟩) (by assumption) ?_
              rotate_left
              · intro wS hSw
                go_simp
                all_goals first | with_reducible rfl | rw [if_neg (by omega)]
              simp only [Act.put, List.setIfInBounds_toArray, List.set]
              refine wpAnyH_take (i := 9) (oi := _) (v := ?_) (by (simp only [List.getElem?_toArray]; rfl)) (by kernel_rfl) (by kernel_rfl) (by kernel_rfl) (by exact fun _ _ _ h => h) (Or.inl ⟨by rfl, ?_⟩) (by assumption) ?_
              rotate_left
              · intro wS hSw
                go_simp
                all_goals first | with_reducible rfl | rw [if_neg (by omega)]
              simp only [Act.put, List.setIfInBounds_toArray, List.set]
              refine wpAnyH_take (i := 10) (oi := _) (v := ?_) (by (simp only [List.getElem?_toArray]; rfl)) (by kernel_rfl) (by kernel_rfl) (by kernel_rfl) (by exact fun _ _ _ h => h) (Or.inl ⟨by rfl, ?_⟩) (by assumption) ?_
              rotate_left
              · intro wS hSw
                go_simp
                all_goals first | with_reducible rfl | rw [if_neg (by omega)]
              simp only [Act.put, List.setIfInBounds_toArray, List.set]
              refine wpAnyH_ready (rs := [0]) (by kernel_rfl) (by simp) ?_
              refine AllReadyH.cons (o := _) (by (simp only [List.getElem?_toArray]; rfl)) (fun K hK => ?_) AllReadyH.nil
              refine step_build0 (by rfl) (by rfl) eltReq ?_
              obtain ⟨we, hwe, swe, be, kwe⟩ := blocks1 wd (.cells #[] 34)
              rw [← hwe]
              clear hwe
              have ke := Lib.hid (below_next kwd kwe)
              refine hK.out _ _ ⟨fun o => ke.out.cell (p := ⟨w.heap.size, o, none⟩) (by show w.heap.size < Z.heap.size; omega), ke.out.mono (by omega)⟩ (fun hHeld => ?_)
              clear hK K hHeld
              simp only [Act.put, List.setIfInBounds_toArray, List.set]
              refine wpAnyH_ready (rs := [5]) (by kernel_rfl) (by simp) ?_
              refine AllReadyH.cons (o := _) (by (simp only [List.getElem?_toArray]; rfl)) (fun K hK => ?_) AllReadyH.nil
              refine step_append_new Z.heap.size (by rfl) (.tmp 48) (.tmp 52) (by rfl) eltReq (by rfl) (by rfl) ((hrw.out.take k).below (KZ.out.size |> fun _ => ke.out)) (by rw [List.length_take]; omega) (by simp only [maxLen]; omega) (by omega) (by have := ke.out.size; omega) ?_
              intro a8 c8 w8 q8
              have k8 := Lib.hid (below_next ke.out q8.below)
              refine hK.out _ _ ⟨fun o => k8.out.cell (p := ⟨w.heap.size, o, none⟩) (by show w.heap.size < Z.heap.size; omega), k8.out.mono (by omega)⟩ (fun hHeld => ?_)
              clear hK K hHeld
              simp only [Act.put, List.setIfInBounds_toArray, List.set]
              refine wpAnyH_ready (rs := [11]) (by kernel_rfl) (by simp) ?_
              refine AllReadyH.cons (o := _) (by (simp only [List.getElem?_toArray]; rfl)) (fun K hK => ?_) AllReadyH.nil
              refine step_append_elt (by rfl) (.tmp 53) (.tmp 58) (by rfl) (wt.length - 1) eltReq (by rfl) (by rfl) q8.row (ys := wt.drop (k + 1)) ((hrw.out.below k8.out).tail (k + 1) c1 (fun h => by omega)) (by rw [List.length_take]; omega) (by rw [List.length_drop]) (by omega) (by simp only [maxLen]; omega) (by omega) k8.out.size ?_
              intro a9 c9 w9 q9
              have er : wt.take k ++ wt.drop (k + 1) = wt.eraseIdx k := (List.eraseIdx_eq_take_drop_succ wt k).symm
              have r9 := q9.row
              rw [er] at r9
              have k9 : Below Z.heap.size Z w9 := k8.out.grown q9.grown k8.out.size (fun g hg => (q8.row.blk hg).1)
              have dW9 := (k9.block _ s6Z).trans dW
              have R69 := (((R6Z.out.below kwd).below kwe).below q8.below).kept q9.grown (fun g hg e => by have := (R6Z.out.blk hg).2; have := (q8.row.blk e).1; omega)
              refine hK.out _ _ ⟨fun o => k9.cell (p := ⟨w.heap.size, o, none⟩) (by show w.heap.size < Z.heap.size; omega), k9.mono (by omega)⟩ (fun hHeld => ?_)
              clear hK K
              simp only [Act.put, List.setIfInBounds_toArray, List.set]
              refine wpAnyH_take (i := 12) (oi := _) (v := ?_) (by (simp only [List.getElem?_toArray]; rfl)) (by kernel_rfl) (by kernel_rfl) (by kernel_rfl) (by exact fun _ _ _ h => h) (Or.inl ⟨by rfl, ?_⟩) (by assumption) ?_
              rotate_left
              · intro wS hSw
                go_simp
                all_goals first | with_reducible rfl | rw [if_neg (by omega)]
              simp only [Act.put, List.setIfInBounds_toArray, List.set]
              have c9W := cell_of_block dW9
              have f9W := unfrozen_of_block dW9
              refine wpAnyH_ready (rs := [13]) (by kernel_rfl) (by simp) ?_
              refine AllReadyH.cons (o := _) (by (simp only [List.getElem?_toArray]; rfl)) (fun K hK => ?_) AllReadyH.nil
              go_simp
              have kS := (k9.mono (show w2.heap.size ≤ Z.heap.size by omega)).setCell (p := ⟨w2.heap.size, 1, none⟩) (Nat.le_refl _) (.slice a9 (wt.length - 1) c9)
              refine hK.out _ _ ⟨fun o => (by rw [World.cell?_setCell_other (h := by simp <;> omega)] : _ = w9.cell? ⟨w.heap.size, o, none⟩).trans (k9.cell (p := ⟨w.heap.size, o, none⟩) (by show w.heap.size < Z.heap.size; omega)), kS⟩ (fun hHeld => ?_)
              clear hK K hHeld
              refine hfin (Ys.mk ?_ ?_ ?_ ?_ a9 c9) _ _ _ (by kernel_rfl) ?_ ⟨kS, block_setCell (i := 1) dW9 (.slice a9 (wt.length - 1) c9), r9.setOther (by simp <;> omega) _, R69.setNe (fun g hg => by have := (HB2.out g hg).1; simp only; omega) _⟩
              rotate_left 4
              simp only [List.setIfInBounds_toArray, List.set]
              rfl
            rintro ⟨v0, v1, v2, v3, b4, d4⟩ w9 ⟨k9, dW9, r4, r69⟩
            simp only at k9 dW9 r4 r69 ⊢
            simp only [List.setIfInBounds_toArray, List.set]
            refine wpAnyH_done (by kernel_rfl) ?_ _
            clear caW faW laW cbW fbW lbW ccW fcW lcW cdW fdW ldW
            replace aW := (k9.block _ (by omega)).trans aW
            replace bW := (k9.block _ (by omega)).trans bW
            replace cW := (k9.block _ (by omega)).trans cW
            clear dW
            have dW := dW9
            clear dW9
            have K9 := KZ.out.trans (k9.mono (by omega))
            have s9 := k9.size
            have R4 := Lib.hid r4
            have R69 := Lib.hid r69
            clear k9 r4 r69
            have HL8 := Lib.hid (show (wt.eraseIdx k).length = wt.length - 1 by rw [List.length_eraseIdx, if_pos hk])
            have caW := cell_of_block aW
            have faW := unfrozen_of_block aW
            have laW := lt_of_block aW
            have cbW := cell_of_block bW
            have fbW := unfrozen_of_block bW
            have lbW := lt_of_block bW
            have ccW := cell_of_block cW
            have fcW := unfrozen_of_block cW
            have lcW := lt_of_block cW
            have cdW := cell_of_block dW
            have fdW := unfrozen_of_block dW
            have ldW := lt_of_block dW
            go_wp2_with fail
            refine bodyPost_ret (v := .tuple #[.agg #[.slice b2 (dn.length + 1) d2, .slice b4 (wt.length - 1) d4, .int .i64 99], .bool true]) (by simp [results, Try.results23, go_sem, ccW]) rfl ?_
            have hp := keepA_eq (wt' := wt.eraseIdx k) (nb := 99) hA hO HIX.out (by omega) (by rw [if_pos (by omega)]; rfl) (by rw [if_pos ⟨by omega, by omega⟩]; rfl)
            rw [hp]
            unfold RetAS
            simp only [HL6.out, HL8.out]
            refine ⟨b2, d2, b4, d4, rfl, ?_, ?_, (by repeat' (first | with_reducible exact Below.refl _ _ | with_reducible assumption | with_reducible refine Below.alloc ?_ ?_ _ | with_reducible refine Below.drew ?_ | with_reducible refine Below.setCell ?_ ?_ _ | omega | (simp; omega) | (simp; done)))⟩
            · exact (((R69.out.setOther (by first | omega | (simp <;> omega)) _).setOther (by first | omega | (simp <;> omega)) _).setOther (by first | omega | (simp <;> omega)) _).low (by omega)
            · exact (((R4.out.setOther (by first | omega | (simp <;> omega)) _).setOther (by first | omega | (simp <;> omega)) _).setOther (by first | omega | (simp <;> omega)) _).low (by omega)
          · have h99' : bk < 99 := by omega
            have hRA := rowsAt_one w5 r 34
            have RA := Lib.hid hRA
            clear hRA
            go_wp2_with (at_builtin; refine wpList_append_row rfl _ _ rfl (dn.length + 1) eltReq rfl rfl (Row.alloc PA0.out (.cells #[.int .i64 r.c, .int .i64 r.n, .int .i64 r.o, .int .i64 r.x, .int .i64 r.y] 34)) RA.out rfl rfl rfl (by simp only [maxLen]; omega) (by omega) (by simp <;> omega) ?_)
            intro b2 d2 w6 q6
            have aW6 := (q6.grown.block _ (by first | omega | (simp <;> omega)) (fun e => by have := HB0.out _ e.symm; omega)).trans ((Below.heap_alloc _ _ _ (by first | omega | (simp <;> omega))).trans aW)
            have bW6 := (q6.grown.block _ (by first | omega | (simp <;> omega)) (fun e => by have := HB0.out _ e.symm; omega)).trans ((Below.heap_alloc _ _ _ (by first | omega | (simp <;> omega))).trans bW)
            have cW6 := (q6.grown.block _ (by first | omega | (simp <;> omega)) (fun e => by have := HB0.out _ e.symm; omega)).trans ((Below.heap_alloc _ _ _ (by first | omega | (simp <;> omega))).trans cW)
            have dW6 := (q6.grown.block _ (by first | omega | (simp <;> omega)) (fun e => by have := HB0.out _ e.symm; omega)).trans ((Below.heap_alloc _ _ _ (by first | omega | (simp <;> omega))).trans dW)
            have s6 := q6.grown.size
            simp only [World.size_alloc] at s6
            have K6 := Lib.hid ((Below.alloc K5 (by first | omega | (simp <;> omega)) (.cells #[.int .i64 r.c, .int .i64 r.n, .int .i64 r.o, .int .i64 r.x, .int .i64 r.y] 34)).grown q6.grown (by first | omega | (simp <;> omega)) (fun g hg => by have := HB0.out g hg; omega))
            have P16 := Lib.hid ((PA1.out.alloc (.cells #[.int .i64 r.c, .int .i64 r.n, .int .i64 r.o, .int .i64 r.x, .int .i64 r.y] 34)).kept q6.grown (fun g hg e => AP.out g e hg))
            have hb2 : ∀ g, rowBlk b2 d2 = some g → g ≠ w2.heap.size ∧ w1.heap.size ≤ g := fun g hg => by
              have hlow := (q6.row.blk hg).1
              refine ⟨?_, hlow⟩
              rcases q6.blk with q | q
              · have := (HB0.out g (q ▸ hg)).2; omega
              · rw [hg] at q; injection q with q; rw [World.size_alloc] at q; omega
            have HB2 := Lib.hid hb2
            have R6 := Lib.hid q6.row
            have HL6 := Lib.hid (show (dn ++ [r]).length = dn.length + 1 by simp)
            clear q6 RA hb2
            clear caW faW laW cbW fbW lbW ccW fcW lcW cdW fdW ldW
            clear aW bW cW dW
            have aW := aW6
            have bW := bW6
            have cW := cW6
            have dW := dW6
            clear aW6 bW6 cW6 dW6
            have caW := cell_of_block aW
            have faW := unfrozen_of_block aW
            have laW := lt_of_block aW
            have cbW := cell_of_block bW
            have fbW := unfrozen_of_block bW
            have lbW := lt_of_block bW
            have ccW := cell_of_block cW
            have fcW := unfrozen_of_block cW
            have lcW := lt_of_block cW
            have cdW := cell_of_block dW
            have fdW := unfrozen_of_block dW
            have ldW := lt_of_block dW
            go_wp2_with fail
            obtain ⟨Z, hZ, sZ, dZ, oZ, kZ⟩ := stored1 w6 w2.heap.size 0 (.slice b2 (dn.length + 1) d2) dW
            rw [← hZ]
            have R6Z := Lib.hid (show Row Z w1.heap.size 34 b2 d2 5 Rq.cs (dn ++ [r]) by rw [hZ]; exact R6.out.setNe (fun g hg => by have := (HB2.out g hg).1; simp only; omega) _)
            replace aW := (oZ _ (by omega)).trans aW
            replace bW := (oZ _ (by omega)).trans bW
            replace cW := (oZ _ (by omega)).trans cW
            replace dW : Z.heap[w2.heap.size]? = some (.cells #[.slice b2 (dn.length + 1) d2, .slice b1 wt.length d1, .int .i64 bk] 30 (0, 0)) := dZ
            have KZ := Lib.hid (K6.out.trans (kZ.mono (by omega)))
            clear caW faW laW cbW fbW lbW ccW fcW lcW cdW fdW ldW
            clear hZ oZ kZ dZ
            clear sZ
            have s6Z : w2.heap.size < Z.heap.size := lt_of_block dW
            have caW := cell_of_block aW
            have faW := unfrozen_of_block aW
            have laW := lt_of_block aW
            have cbW := cell_of_block bW
            have fbW := unfrozen_of_block bW
            have lbW := lt_of_block bW
            have ccW := cell_of_block cW
            have fcW := unfrozen_of_block cW
            have lcW := lt_of_block cW
            have cdW := cell_of_block dW
            have fdW := unfrozen_of_block dW
            have ldW := lt_of_block dW
            obtain ⟨ab, ao, ha1, hab, -⟩ := H1.out.bounds.2.2.2 k hk
            subst ha1
            have hlc1 := H1.out.bounds.2.1
            have hmc1 := H1.out.bounds.2.2.1
            unfold maxLen at hmc1
            have g1 : ((k : Nat) : Int) ≤ (c1 : Int) := by omega
            have g2 : ((k : Nat) : Int) + 1 ≤ (wt.length : Int) := by omega
            have g3 : ¬ c1 = 0 := by omega
            have g4 : k + 1 ≤ wt.length := by omega
            have g5 : ((k : Nat) : Int) < (wt.length : Int) := by omega
            have g6 : (wt.length : Int) ≤ (c1 : Int) := by omega
            have g7 : (0 : Int) ≤ ((k : Nat) : Int) + 1 := by omega
            have hrw := Lib.hid (H1.out.rowsAt KZ.out)
            refine wp_region_held_drew (S := fun w' => ((∀ o, w'.cell? ⟨w.heap.size, o, none⟩ = Z.cell? ⟨w.heap.size, o, none⟩) ∧ Below w2.heap.size Z w')) (by kernel_rfl) ⟨fun _ => rfl, Below.drew (Below.refl _ _)⟩ (fun hHeld => ?_)
            refine introFin2 (X := Ys) 0 #[true, true, true, true, true, true, true, true, true, true, true, true, true, true] (fun x T => (((((((((((((T.setIfInBounds 48 x.v0).setIfInBounds 49 (.pointer (some ⟨w.heap.size, 1, none⟩))).setIfInBounds 50 (.slice (some ⟨ab, ao, none⟩) wt.length c1)).setIfInBounds 51 (.int .i64 ((k : Nat) : Int))).setIfInBounds 52 x.v1).setIfInBounds 53 x.v2).setIfInBounds 54 (.pointer (some ⟨w.heap.size, 1, none⟩))).setIfInBounds 55 (.slice (some ⟨ab, ao, none⟩) wt.length c1)).setIfInBounds 56 (.int .i64 ((k : Nat) : Int))).setIfInBounds 57 (.int .i64 (((k : Nat) : Int) + 1))).setIfInBounds 58 x.v3).setIfInBounds 59 (.slice x.a (wt.length - 1) x.c)).setIfInBounds 60 (.pointer (some ⟨w2.heap.size, 1, none⟩)))) (fun x w' => Below w2.heap.size Z w' ∧ w'.heap[w2.heap.size]? = some (.cells #[.slice b2 (dn.length + 1) d2, .slice x.a (wt.length - 1) x.c, .int .i64 bk] 30 (0, 0)) ∧ Row w' Z.heap.size 34 x.a x.c 5 Rq.cs (wt.eraseIdx k) ∧ Row w' w1.heap.size 34 b2 d2 5 Rq.cs (dn ++ [r])) ?_ (fun hfin => ?_)
            rotate_left
            · obtain ⟨wd, hwd, kwd⟩ : ∃ wd, wd = Z.drew ∧ Below Z.heap.size Z wd := ⟨_, rfl, Below.drew (Below.refl _ _)⟩
              rw [← hwd] at hHeld ⊢
              clear hwd
              have sd := kwd.size
              have szd := Lib.hid sd
              refine wpAnyH_take (i := 1) (oi := _) (v := ?_) (by (simp only [List.getElem?_toArray]; rfl)) (by kernel_rfl) (by kernel_rfl) (by kernel_rfl) (by exact fun _ _ _ h => h) (Or.inl ⟨by rfl, ?_⟩) (by assumption) ?_
              rotate_left
              · intro wS hSw
                go_simp
                all_goals first | with_reducible rfl | rw [if_neg (by omega)]
              simp only [Act.put, List.setIfInBounds_toArray, List.set]
              refine wpAnyH_take (i := 2) (oi := _) (v := ?_) (by (simp only [List.getElem?_toArray]; rfl)) (by kernel_rfl) (by kernel_rfl) (by kernel_rfl) (by exact fun _ _ _ h => h) (Or.inl ⟨by rfl, ?_⟩) (by assumption) ?_
              rotate_left
              · intro wS hSw
                go_simp
                all_goals first | with_reducible rfl | rw [if_neg (by omega)]
              simp only [Act.put, List.setIfInBounds_toArray, List.set]
              refine wpAnyH_take (i := 3) (oi := _) (v := ?_) (by (simp only [List.getElem?_toArray]; rfl)) (by kernel_rfl) (by kernel_rfl) (by kernel_rfl) (by exact fun _ _ _ h => h) (Or.inl ⟨by rfl, ?_⟩) (by assumption) ?_
              rotate_left
              · intro wS hSw
                go_simp
                all_goals first | with_reducible rfl | rw [if_neg (by omega)]
              simp only [Act.put, List.setIfInBounds_toArray, List.set]
              refine wpAnyH_take (i := 4) (oi := _) (v := ?_) (by (simp only [List.getElem?_toArray]; rfl)) (by kernel_rfl) (by kernel_rfl) (by kernel_rfl) (by exact fun _ _ _ h => h) (Or.inl ⟨by rfl, ?_⟩) (by assumption) ?_
              rotate_left
              · intro wS hSw
                go_simp
                all_goals first | with_reducible rfl | rw [if_neg (by omega)]
              simp only [Act.put, List.setIfInBounds_toArray, List.set]
              refine wpAnyH_take (i := 6) (oi := _) (v := ?_) (by (simp only [List.getElem?_toArray]; rfl)) (by kernel_rfl) (by kernel_rfl) (by kernel_rfl) (by exact fun _ _ _ h => h) (Or.inl ⟨by rfl, ?_⟩) (by assumption) ?_
              rotate_left
              · intro wS hSw
                go_simp
                all_goals first | with_reducible rfl | rw [if_neg (by omega)]
              simp only [Act.put, List.setIfInBounds_toArray, List.set]
              refine wpAnyH_take (i := 7) (oi := _) (v := ?_) (by (simp only [List.getElem?_toArray]; rfl)) (by kernel_rfl) (by kernel_rfl) (by kernel_rfl) (by exact fun _ _ _ h => h) (Or.inl ⟨by rfl, ?_⟩) (by assumption) ?_
              rotate_left
              · intro wS hSw
                go_simp
                all_goals first | with_reducible rfl | rw [if_neg (by omega)]
              simp only [Act.put, List.setIfInBounds_toArray, List.set]
              refine wpAnyH_take (i := 8) (oi := _) (v := ?_) (by (simp only [List.getElem?_toArray]; rfl)) (by kernel_rfl) (by kernel_rfl) (by kernel_rfl) (by exact fun _ _ _ h => h) (Or.inl ⟨by rfl, ?_⟩) (by assumption) ?_
              rotate_left
              · intro wS hSw
                go_simp
                all_goals first | with_reducible rfl | rw [if_neg (by omega)]
              simp only [Act.put, List.setIfInBounds_toArray, List.set]
              refine wpAnyH_take (i := 9) (oi := _) (v := ?_) (by (simp only [List.getElem?_toArray]; rfl)) (by kernel_rfl) (by kernel_rfl) (by kernel_rfl) (by exact fun _ _ _ h => h) (Or.inl ⟨by rfl, ?_⟩) (by assumption) ?_
              rotate_left
              · intro wS hSw
                go_simp
                all_goals first | with_reducible rfl | rw [if_neg (by omega)]
              simp only [Act.put, List.setIfInBounds_toArray, List.set]
              refine wpAnyH_take (i := 10) (oi := _) (v := ?_) (by (simp only [List.getElem?_toArray]; rfl)) (by kernel_rfl) (by kernel_rfl) (by kernel_rfl) (by exact fun _ _ _ h => h) (Or.inl ⟨by rfl, ?_⟩) (by assumption) ?_
              rotate_left
              · intro wS hSw
                go_simp
                all_goals first | with_reducible rfl | rw [if_neg (by omega)]
              simp only [Act.put, List.setIfInBounds_toArray, List.set]
              refine wpAnyH_ready (rs := [0]) (by kernel_rfl) (by simp) ?_
              refine AllReadyH.cons (o := _) (by (simp only [List.getElem?_toArray]; rfl)) (fun K hK => ?_) AllReadyH.nil
              refine step_build0 (by rfl) (by rfl) eltReq ?_
              obtain ⟨we, hwe, swe, be, kwe⟩ := blocks1 wd (.cells #[] 34)
              rw [← hwe]
              clear hwe
              have ke := Lib.hid (below_next kwd kwe)
              refine hK.out _ _ ⟨fun o => ke.out.cell (p := ⟨w.heap.size, o, none⟩) (by show w.heap.size < Z.heap.size; omega), ke.out.mono (by omega)⟩ (fun hHeld => ?_)
              clear hK K hHeld
              simp only [Act.put, List.setIfInBounds_toArray, List.set]
              refine wpAnyH_ready (rs := [5]) (by kernel_rfl) (by simp) ?_
              refine AllReadyH.cons (o := _) (by (simp only [List.getElem?_toArray]; rfl)) (fun K hK => ?_) AllReadyH.nil
              refine step_append_new Z.heap.size (by rfl) (.tmp 48) (.tmp 52) (by rfl) eltReq (by rfl) (by rfl) ((hrw.out.take k).below (KZ.out.size |> fun _ => ke.out)) (by rw [List.length_take]; omega) (by simp only [maxLen]; omega) (by omega) (by have := ke.out.size; omega) ?_
              intro a8 c8 w8 q8
              have k8 := Lib.hid (below_next ke.out q8.below)
              refine hK.out _ _ ⟨fun o => k8.out.cell (p := ⟨w.heap.size, o, none⟩) (by show w.heap.size < Z.heap.size; omega), k8.out.mono (by omega)⟩ (fun hHeld => ?_)
              clear hK K hHeld
              simp only [Act.put, List.setIfInBounds_toArray, List.set]
              refine wpAnyH_ready (rs := [11]) (by kernel_rfl) (by simp) ?_
              refine AllReadyH.cons (o := _) (by (simp only [List.getElem?_toArray]; rfl)) (fun K hK => ?_) AllReadyH.nil
              refine step_append_elt (by rfl) (.tmp 53) (.tmp 58) (by rfl) (wt.length - 1) eltReq (by rfl) (by rfl) q8.row (ys := wt.drop (k + 1)) ((hrw.out.below k8.out).tail (k + 1) c1 (fun h => by omega)) (by rw [List.length_take]; omega) (by rw [List.length_drop]) (by omega) (by simp only [maxLen]; omega) (by omega) k8.out.size ?_
              intro a9 c9 w9 q9
              have er : wt.take k ++ wt.drop (k + 1) = wt.eraseIdx k := (List.eraseIdx_eq_take_drop_succ wt k).symm
              have r9 := q9.row
              rw [er] at r9
              have k9 : Below Z.heap.size Z w9 := k8.out.grown q9.grown k8.out.size (fun g hg => (q8.row.blk hg).1)
              have dW9 := (k9.block _ s6Z).trans dW
              have R69 := (((R6Z.out.below kwd).below kwe).below q8.below).kept q9.grown (fun g hg e => by have := (R6Z.out.blk hg).2; have := (q8.row.blk e).1; omega)
              refine hK.out _ _ ⟨fun o => k9.cell (p := ⟨w.heap.size, o, none⟩) (by show w.heap.size < Z.heap.size; omega), k9.mono (by omega)⟩ (fun hHeld => ?_)
              clear hK K
              simp only [Act.put, List.setIfInBounds_toArray, List.set]
              refine wpAnyH_take (i := 12) (oi := _) (v := ?_) (by (simp only [List.getElem?_toArray]; rfl)) (by kernel_rfl) (by kernel_rfl) (by kernel_rfl) (by exact fun _ _ _ h => h) (Or.inl ⟨by rfl, ?_⟩) (by assumption) ?_
              rotate_left
              · intro wS hSw
                go_simp
                all_goals first | with_reducible rfl | rw [if_neg (by omega)]
              simp only [Act.put, List.setIfInBounds_toArray, List.set]
              have c9W := cell_of_block dW9
              have f9W := unfrozen_of_block dW9
              refine wpAnyH_ready (rs := [13]) (by kernel_rfl) (by simp) ?_
              refine AllReadyH.cons (o := _) (by (simp only [List.getElem?_toArray]; rfl)) (fun K hK => ?_) AllReadyH.nil
              go_simp
              have kS := (k9.mono (show w2.heap.size ≤ Z.heap.size by omega)).setCell (p := ⟨w2.heap.size, 1, none⟩) (Nat.le_refl _) (.slice a9 (wt.length - 1) c9)
              refine hK.out _ _ ⟨fun o => (by rw [World.cell?_setCell_other (h := by simp <;> omega)] : _ = w9.cell? ⟨w.heap.size, o, none⟩).trans (k9.cell (p := ⟨w.heap.size, o, none⟩) (by show w.heap.size < Z.heap.size; omega)), kS⟩ (fun hHeld => ?_)
              clear hK K hHeld
              refine hfin (Ys.mk ?_ ?_ ?_ ?_ a9 c9) _ _ _ (by kernel_rfl) ?_ ⟨kS, block_setCell (i := 1) dW9 (.slice a9 (wt.length - 1) c9), r9.setOther (by simp <;> omega) _, R69.setNe (fun g hg => by have := (HB2.out g hg).1; simp only; omega) _⟩
              rotate_left 4
              simp only [List.setIfInBounds_toArray, List.set]
              rfl
            rintro ⟨v0, v1, v2, v3, b4, d4⟩ w9 ⟨k9, dW9, r4, r69⟩
            simp only at k9 dW9 r4 r69 ⊢
            simp only [List.setIfInBounds_toArray, List.set]
            refine wpAnyH_done (by kernel_rfl) ?_ _
            clear caW faW laW cbW fbW lbW ccW fcW lcW cdW fdW ldW
            replace aW := (k9.block _ (by omega)).trans aW
            replace bW := (k9.block _ (by omega)).trans bW
            replace cW := (k9.block _ (by omega)).trans cW
            clear dW
            have dW := dW9
            clear dW9
            have K9 := KZ.out.trans (k9.mono (by omega))
            have s9 := k9.size
            have R4 := Lib.hid r4
            have R69 := Lib.hid r69
            clear k9 r4 r69
            have HL8 := Lib.hid (show (wt.eraseIdx k).length = wt.length - 1 by rw [List.length_eraseIdx, if_pos hk])
            have caW := cell_of_block aW
            have faW := unfrozen_of_block aW
            have laW := lt_of_block aW
            have cbW := cell_of_block bW
            have fbW := unfrozen_of_block bW
            have lbW := lt_of_block bW
            have ccW := cell_of_block cW
            have fcW := unfrozen_of_block cW
            have lcW := lt_of_block cW
            have cdW := cell_of_block dW
            have fdW := unfrozen_of_block dW
            have ldW := lt_of_block dW
            have hb1' : IntKind.i64.wrap (bk + 1) = bk + 1 := IntWalk.i64_in _ ⟨by omega, by omega⟩
            go_wp2_with fail
            refine bodyPost_ret (v := .tuple #[.agg #[.slice b2 (dn.length + 1) d2, .slice b4 (wt.length - 1) d4, .int .i64 (bk + 1)], .bool true]) (by simp [results, Try.results23, go_sem, ccW]) rfl ?_
            have hp := keepA_eq (wt' := wt.eraseIdx k) (nb := (bk + 1)) hA hO HIX.out (by omega) (by rw [if_pos (by omega)]; rfl) (by rw [if_pos ⟨by omega, by omega⟩, if_pos (by omega)])
            rw [hp]
            unfold RetAS
            simp only [HL6.out, HL8.out]
            refine ⟨b2, d2, b4, d4, rfl, ?_, ?_, (by repeat' (first | with_reducible exact Below.refl _ _ | with_reducible assumption | with_reducible refine Below.alloc ?_ ?_ _ | with_reducible refine Below.drew ?_ | with_reducible refine Below.setCell ?_ ?_ _ | omega | (simp; omega) | (simp; done)))⟩
            · exact ((((R69.out.setNe (fun g hg => by have := (HB2.out g hg).1; simp only; omega) _).setOther (by first | omega | (simp <;> omega)) _).setOther (by first | omega | (simp <;> omega)) _).setOther (by first | omega | (simp <;> omega)) _).low (by omega)
            · exact ((((R4.out.setOther (by first | omega | (simp <;> omega)) _).setOther (by first | omega | (simp <;> omega)) _).setOther (by first | omega | (simp <;> omega)) _).setOther (by first | omega | (simp <;> omega)) _).low (by omega)
end Go.Proofs.Ytofedboeggdkaaa


/-! The walk of FnAheadKeep: it returns true for every code; no condition. -/
namespace Go.Proofs.Ytofedboeggdkaaa.fnAheadKeep
open Go.RowKit Go.Joins
attribute [local go_sem ↓] eql_rq neq_rq
theorem takeTo {α : Type} {w : World} {a : Option Addr} {n cap k m : Nat} {R : α → List Value} {zs : List α} (h : IsSl w (.slice a n cap) k R zs) (hm : m ≤ n) : IsSl w (.slice a m cap) k R (zs.take m) := by
  obtain ⟨hl, hc, hx, hr⟩ := h.bounds
  exact ⟨a, cap, by rw [List.length_take, Nat.min_eq_left (by omega)], by rw [List.length_take]; omega, hx, hr.take m⟩
theorem eqR_eq {p q : Rq} (h : eqR p.c p.n p.o p.x p.y q.c q.n q.o q.x q.y = true) : p = q := Decidable.byContradiction fun hn => by rw [eqR_ne hn] at h; cases h
/-- The first that was done ahead is kept. -/
theorem kept_first {z x : Ah} {r : Rq} {b : Bool} {k : Nat} (hz : aheadB z = true) (hx : (x, b) = keepA z r) (hk : k = 0) (h : k < z.wt.length) (hq : z.wt[k] = r) : gameA x = gameA z ∧ x.bk = z.bk := by
  subst hk
  obtain ⟨dn, wt, bk⟩ := z
  cases wt with
  | nil => cases h
  | cons q t =>
    have hq' : q = r := hq
    subst hq'
    rw [keepA_first hz] at hx
    injection hx with hx _
    rw [hx]
    exact ⟨(keepA_first_ok hz).2, rfl⟩

set_option maxRecDepth 100000 in
set_option maxHeartbeats 16000000 in
theorem walk (v0 : Value) (z0 : Bts) (w : World) (h0 : IsBytes w v0 z0) :
    Calls Try.prog 6 #[v0] w fun e w' => e = .returned (.bool true) ∧ Below w.heap.size w w' := by
  obtain ⟨a, n, cap⟩ := z0
  have HZ := Lib.hid h0
  obtain ⟨hv, hlc, hm, -⟩ := h0
  simp only at hv hlc hm
  subst hv
  by_cases hbig : (1048576 : Int) < n
  · go_enter Try.func6, Try.ntmps6
    go_wp2_with fail
    go_ret
    exact ⟨rfl, Below.refl _ _⟩
  · go_enter Try.func6, Try.ntmps6
    go_wp2_with fail
    refine (DrawAheadKeep_c _ _ w HZ.out).mono ?_
    rintro e w1 ⟨z, r, a0, a1, c0, c1, rfl, h8, h5, r0, r1, k1⟩
    have s0 := r0.sl five_len
    have s1 := r1.sl five_len
    have CI := Lib.hid (fun V (k : Below w1.heap.size w1 V) => AheadKeep_c z r a0 a1 c0 c1 V (s0.below k) (s1.below k) (by omega))
    have CS := Lib.hid (fun V (k : Below w1.heap.size w1 V) => sAheadKeep_c z r a0 a1 c0 c1 V (s0.below k) (s1.below k) (by omega))
    have CG := Lib.hid (fun V (k : Below w1.heap.size w1 V) => AheadGame_c z a0 a1 c0 c1 V (s0.below k) (s1.below k) (by omega))
    have CU := Lib.hid (fun V (k : Below w1.heap.size w1 V) => AheadSure_c z a0 a1 c0 c1 V (s0.below k) (s1.below k) (by omega))
    have CO := Lib.hid (fun V (k : Below w1.heap.size w1 V) => AheadOk_c z a0 a1 c0 c1 V (s0.below k) (s1.below k) (by omega))
    have CP := Lib.hid (fun V (k : Below w1.heap.size w1 V) => sAheadOk_c z a0 a1 c0 c1 V (s0.below k) (s1.below k) (by omega))
    have S0 := Lib.hid s0
    have S1 := Lib.hid s1
    have K1 := Lib.hid k1
    have HS := Lib.hid (show z.dn.length + z.wt.length ≤ 13 by omega)
    have FY := Lib.hid (keepA_yes (z := z) (r := r))
    have FN := Lib.hid (keepA_no (z := z) (r := r))
    have HLX := Lib.hid (keepA_len z r (by omega))
    obtain ⟨p, hp⟩ : ∃ p, p = keepA z r := ⟨_, rfl⟩
    have HPP := Lib.hid hp
    rw [← hp] at CI CS FY FN HLX
    obtain ⟨x, b⟩ := p
    simp only at CI CS FY FN HLX
    obtain ⟨ab, hab⟩ : ∃ ab, ab = aheadB z := ⟨_, rfl⟩
    have HAB := Lib.hid hab
    rw [← hab] at CO CP
    clear hp hab s0 s1 k1 HZ r0 r1 h8 h5
    go_wp2_with fail
    obtain ⟨w2, hw2, sw2, aB, qB, k2⟩ := blocks2 w1 (.cells #[.slice a0 z.dn.length c0, .slice a1 z.wt.length c1, .int .i64 z.bk] 30) (.cells #[.int .i64 r.c, .int .i64 r.n, .int .i64 r.o, .int .i64 r.x, .int .i64 r.y] 34)
    rw [← hw2]
    clear hw2 sw2
    refine (CI.out w2 k2).mono ?_
    rintro e w3 ⟨b0, b1, rfl, p0, p1, -, k3⟩
    have A3 := Lib.hid (carryN k3 aB)
    have Q3 := Lib.hid (carryN k3 qB)
    have W3 := Lib.hid (below_next k2 k3)
    have P0 := Lib.hid (p0.sl five_len)
    have P1 := Lib.hid (p1.sl five_len)
    clear k2 k3 aB qB p0 p1
    have cA := cell_of_block A3.out
    have lA := lt_of_block A3.out
    have cQ := cell_of_block Q3.out
    have lQ := lt_of_block Q3.out
    obtain ⟨A, hA⟩ : ∃ A, A = w1.heap.size := ⟨_, rfl⟩
    rw [← hA] at A3 Q3 cA lA cQ lQ ⊢
    clear hA
    go_wp2_with fail
    obtain ⟨w4, hw4, sw4, xB, k4⟩ := blocks1 w3 (.cells #[.slice b0 x.dn.length x.dn.length, .slice b1 x.wt.length x.wt.length, .int .i64 x.bk] 30)
    rw [← hw4]
    clear hw4 sw4
    obtain ⟨X, hX⟩ : ∃ X, X = w3.heap.size := ⟨_, rfl⟩
    rw [← hX] at xB ⊢
    clear hX
    refine (CS.out w4 (below_next W3.out k4)).mono ?_
    rintro e w5 ⟨i0, j0, i1, j1, rfl, o0, o1, k5⟩
    have A5 := Lib.hid (carryN (below_next k4 k5) A3.out)
    have Q5 := Lib.hid (carryN (below_next k4 k5) Q3.out)
    have X5 := Lib.hid (carryN k5 xB)
    have P05 := Lib.hid (P0.out.below (below_next k4 k5))
    have P15 := Lib.hid (P1.out.below (below_next k4 k5))
    have W5 := Lib.hid (below_next W3.out (below_next k4 k5))
    have U0 := Lib.hid (o0.sl five_len)
    have U1 := Lib.hid (o1.sl five_len)
    clear cA lA cQ lQ k4 k5 xB o0 o1 A3 Q3 W3 P0 P1
    have cX := cell_of_block X5.out
    have lX := lt_of_block X5.out
    go_wp2_with fail
    obtain ⟨w6, hw6, sw6, wB, k6⟩ := blocks1 w5 (.cells #[.slice i0 x.dn.length j0, .slice i1 x.wt.length j1, .int .i64 x.bk] 30)
    rw [← hw6]
    clear hw6 sw6
    obtain ⟨U, hU⟩ : ∃ U, U = w5.heap.size := ⟨_, rfl⟩
    rw [← hU] at wB ⊢
    clear hU
    have A6 := Lib.hid (carryN k6 A5.out)
    have Q6 := Lib.hid (carryN k6 Q5.out)
    have X6 := Lib.hid (carryN k6 X5.out)
    have UB := Lib.hid wB
    have P06 := Lib.hid (P05.out.below k6)
    have P16 := Lib.hid (P15.out.below k6)
    have U06 := Lib.hid (U0.out.below k6)
    have U16 := Lib.hid (U1.out.below k6)
    have W6 := Lib.hid (below_next W5.out k6)
    clear cX lX k6 wB A5 Q5 X5 P05 P15 U0 U1 W5 CI CS
    have cU := cell_of_block UB.out
    have lU := lt_of_block UB.out
    have cX := cell_of_block X6.out
    have lX := lt_of_block X6.out
    go_wp2_with fail
    refine (wpAhead_c x b0 b1 i0 i1 _ _ j0 j1 w6 P06.out P16.out U06.out U16.out).mono ?_
    rintro e w7 ⟨rfl, k7⟩
    clear cU lU cX lX
    have A7 := Lib.hid (carryN k7 A6.out)
    have Q7 := Lib.hid (carryN k7 Q6.out)
    have X7 := Lib.hid (carryN k7 X6.out)
    have UB7 := Lib.hid (carryN k7 UB.out)
    have P07 := Lib.hid (P06.out.below k7)
    have P17 := Lib.hid (P16.out.below k7)
    have U07 := Lib.hid (U06.out.below k7)
    have U17 := Lib.hid (U16.out.below k7)
    have W7 := Lib.hid (below_next W6.out k7)
    clear k7 A6 Q6 X6 UB P06 P16 U06 U16 W6
    have cA := cell_of_block A7.out
    have lA := lt_of_block A7.out
    go_wp2_with fail
    refine (CO.out w7 W7.out).mono ?_
    rintro e w7' ⟨rfl, k7⟩
    have A8 := Lib.hid (carryN k7 A7.out)
    have Q8 := Lib.hid (carryN k7 Q7.out)
    have X8 := Lib.hid (carryN k7 X7.out)
    have UB8 := Lib.hid (carryN k7 UB7.out)
    have P08 := Lib.hid (P07.out.below k7)
    have P18 := Lib.hid (P17.out.below k7)
    have U08 := Lib.hid (U07.out.below k7)
    have U18 := Lib.hid (U17.out.below k7)
    have W8 := Lib.hid (below_next W7.out k7)
    clear k7 A7 Q7 X7 UB7 P07 P17 U07 U17 W7 cA lA
    obtain ⟨w8, hw8⟩ : ∃ V, V = w7' := ⟨_, rfl⟩
    subst hw8
    have cX := cell_of_block X8.out
    have lX := lt_of_block X8.out
    have cU := cell_of_block UB8.out
    have lU := lt_of_block UB8.out
    have cA := cell_of_block A8.out
    have lA := lt_of_block A8.out
    have cQ := cell_of_block Q8.out
    have lQ := lt_of_block Q8.out
    cases ab with
    | false =>
      go_wp2_with fail
      refine (wpAhead_c x b0 b1 i0 i1 _ _ j0 j1 w8 P08.out P18.out U08.out U18.out).mono ?_
      rintro e w9 ⟨rfl, k9⟩
      clear cX lX cU lU cA lA cQ lQ
      go_wp2_with fail
      go_ret
      exact ⟨rfl, below_next K1.out (below_next W8.out k9)⟩
    | true =>
      have HZZ := Lib.hid HAB.out.symm
      cases b with
      | false =>
        have hxz : x = z := FN.out HZZ.out rfl
        subst hxz
        clear cU lU
        go_wp2_with fail
        refine (wpAhead_c x b0 b1 a0 a1 _ _ c0 c1 w8 P08.out P18.out (S0.out.below W8.out) (S1.out.below W8.out)).mono ?_
        rintro e w9 ⟨rfl, k9⟩
        clear cX lX cA lA cQ lQ
        go_wp2_with fail
        go_ret
        exact ⟨rfl, below_next K1.out (below_next W8.out k9)⟩
      | true =>
        obtain ⟨hdn, hgr, hbx, hsx, hge⟩ := FY.out HZZ.out rfl
        have HBX := Lib.hid hbx
        have HSX := Lib.hid hsx
        have HDN := Lib.hid hdn
        have HGE := Lib.hid hge
        have HR := Lib.hid hgr
        have HGZ := Lib.hid (sureA_ok HZZ.out)
        have HLX2 := Lib.hid (show x.dn.length + x.wt.length ≤ 1048576 by have := ((aheadB_iff x).1 hbx).2.2.1; omega)
        obtain ⟨y, hy⟩ : ∃ y, y = sureA z := ⟨_, rfl⟩
        rw [← hy] at CU HSX HGZ
        clear hdn hgr hbx hsx hge hy
        have CD := Lib.hid (fun (e0 e1 e2 : Option Addr) (f0 f1 f2 : Nat) V h0 h1 h2 => GameDoF_c y r e0 e1 e2 f0 f1 f2 V h0 h1 h2 (by have := gameB_lens4 HGZ.out; omega))
        rw [gameDo_yes HGZ.out HR.out] at CD
        obtain ⟨pd, hpd⟩ : ∃ pd, pd = doG y r := ⟨_, rfl⟩
        rw [← hpd] at CD HSX
        obtain ⟨y', c2⟩ := pd
        simp only at CD HSX
        clear hpd cU lU
        go_wp2_with fail
        refine wp_region_held_drew (S := fun w' => ((∀ b o, b < w8.heap.size → (w').cell? ⟨b, o, none⟩ = (w8).cell? ⟨b, o, none⟩) ∧ Below (w8.heap.size) (w8) (w'))) (by kernel_rfl) (KeptB.drew (KeptB.refl _ _)) (fun hHeld => ?_)
        refine introFin2 (X := Xs) 0 #[true, true, true, true, true, true, true, true, true, true] (fun x' T => (((((((((T).setIfInBounds 61 (.agg #[.slice a0 z.dn.length c0, .slice a1 z.wt.length c1, .int .i64 z.bk])).setIfInBounds 62 (x'.v0)).setIfInBounds 63 (.agg #[.int .i64 r.c, .int .i64 r.n, .int .i64 r.o, .int .i64 r.x, .int .i64 r.y])).setIfInBounds 64 (.tuple #[.agg #[.slice x'.a0 y'.es.length x'.c0, .slice x'.a1 y'.fl.length x'.c1, .slice x'.a2 y'.la.length x'.c2], .int .i64 c2])).setIfInBounds 60 (.tuple #[.agg #[.slice x'.a0 y'.es.length x'.c0, .slice x'.a1 y'.fl.length x'.c1, .slice x'.a2 y'.la.length x'.c2], .int .i64 c2])).setIfInBounds 65 (.agg #[.slice x'.a0 y'.es.length x'.c0, .slice x'.a1 y'.fl.length x'.c1, .slice x'.a2 y'.la.length x'.c2])).setIfInBounds 66 (.int .i64 c2)).setIfInBounds 9 (.pointer (some ⟨x'.x, 0, none⟩))).setIfInBounds 10 (.int .i64 c2)) (fun x' w' => (((∀ b o, b < w8.heap.size → (w').cell? ⟨b, o, none⟩ = (w8).cell? ⟨b, o, none⟩) ∧ Below (w8.heap.size) (w8) (w'))) ∧ w'.heap[x'.x]? = some (.cells #[.slice x'.a0 y'.es.length x'.c0, .slice x'.a1 y'.fl.length x'.c1, .slice x'.a2 y'.la.length x'.c2] 46 (0, 0)) ∧ w8.heap.size ≤ x'.x ∧ Own3 w' 0 x'.a0 x'.c0 x'.a1 x'.c1 x'.a2 x'.c2 y') ?_ (fun hfin => ?_)
        rotate_left
        · obtain ⟨wd, hwd, kwd⟩ : ∃ wd, wd = w8.drew ∧ Below w8.heap.size w8 wd := ⟨_, rfl, Below.drew (Below.refl _ _)⟩
          rw [← hwd] at hHeld ⊢
          clear hwd
          have RK := Lib.hid (KeptB.of kwd)
          clear kwd
          refine wpAnyH_take (i := 0) (oi := _) (v := ?_) (by (simp only [List.getElem?_toArray]; rfl)) (by kernel_rfl) (by kernel_rfl) (by kernel_rfl) (by exact fun _ _ _ h => h) (Or.inl ⟨by rfl, ?_⟩) (by assumption) ?_
          rotate_left
          · intro wS hSw
            go_simp
            all_goals first | with_reducible rfl | rw [if_neg (by omega)]
          simp only [Act.put, List.setIfInBounds_toArray, List.set]
          refine wpAnyH_take (i := 2) (oi := _) (v := ?_) (by (simp only [List.getElem?_toArray]; rfl)) (by kernel_rfl) (by kernel_rfl) (by kernel_rfl) (by exact fun _ _ _ h => h) (Or.inl ⟨by rfl, ?_⟩) (by assumption) ?_
          rotate_left
          · intro wS hSw
            go_simp
            all_goals first | with_reducible rfl | rw [if_neg (by omega)]
          simp only [Act.put, List.setIfInBounds_toArray, List.set]
          refine wpAnyH_ready (rs := [1, 7]) (by kernel_rfl) (by simp) ?_
          refine AllReadyH.cons (o := _) (by (simp only [List.getElem?_toArray]; rfl)) (fun K hK => ?_) ?_
          · skip
            go_simp
            refine (CU.out _ (below_next W8.out RK.out.2)).mono ?_
            rintro e wkGRK ⟨v, rfl, ov, kk⟩
            obtain ⟨e0, f0, e1, f1, e2, f2, rfl, o2⟩ := ov.rows
            clear ov
            have kGRK := Lib.hid (KeptB.next (Nat.le_refl _) RK.out kk)
            clear kk
            refine hK.out _ _ kGRK.out (fun hHeld => ?_)
            clear hK K hHeld
            try simp only [Act.put, List.setIfInBounds_toArray, List.set]
            refine wpAnyH_ready (rs := [3, 7]) (by kernel_rfl) (by simp) ?_
            refine AllReadyH.cons (o := _) (by (simp only [List.getElem?_toArray]; rfl)) (fun K hK => ?_) ?_
            · skip
              go_simp
              refine (CD.out e0 e1 e2 f0 f1 f2 _ (o2.e.sl five_len) (o2.f.sl int_len) (o2.l.sl int_len)).mono ?_
              clear o2
              rintro e wkDkGRK ⟨i0, i1, i2, rfl, o2, kk⟩
              have kDkGRK := Lib.hid (KeptB.next (Nat.le_refl _) kGRK.out kk)
              clear kk
              refine hK.out _ _ kDkGRK.out (fun hHeld => ?_)
              clear hK K hHeld
              try simp only [Act.put, List.setIfInBounds_toArray, List.set]
              refine wpAnyH_take (i := 4) (oi := _) (v := ?_) (by (simp only [List.getElem?_toArray]; rfl)) (by kernel_rfl) (by kernel_rfl) (by kernel_rfl) (by exact fun _ _ _ h => h) (Or.inl ⟨by rfl, ?_⟩) (by assumption) ?_
              rotate_left
              · intro wS hSw
                go_simp
                all_goals first | with_reducible rfl | rw [if_neg (by omega)]
              simp only [Act.put, List.setIfInBounds_toArray, List.set]
              refine wpAnyH_take (i := 5) (oi := _) (v := ?_) (by (simp only [List.getElem?_toArray]; rfl)) (by kernel_rfl) (by kernel_rfl) (by kernel_rfl) (by exact fun _ _ _ h => h) (Or.inl ⟨by rfl, ?_⟩) (by assumption) ?_
              rotate_left
              · intro wS hSw
                go_simp
                all_goals first | with_reducible rfl | rw [if_neg (by omega)]
              simp only [Act.put, List.setIfInBounds_toArray, List.set]
              refine wpAnyH_take (i := 6) (oi := _) (v := ?_) (by (simp only [List.getElem?_toArray]; rfl)) (by kernel_rfl) (by kernel_rfl) (by kernel_rfl) (by exact fun _ _ _ h => h) (Or.inl ⟨by rfl, ?_⟩) (by assumption) ?_
              rotate_left
              · intro wS hSw
                go_simp
                all_goals first | with_reducible rfl | rw [if_neg (by omega)]
              simp only [Act.put, List.setIfInBounds_toArray, List.set]
              refine wpAnyH_ready (rs := [7]) (by kernel_rfl) (by simp) ?_
              refine AllReadyH.cons (o := _) (by (simp only [List.getElem?_toArray]; rfl)) (fun K hK => ?_) AllReadyH.nil
              refine step_alloc (by rfl) (by rfl) (z := .agg #[.slice none 0 0, .slice none 0 0, .slice none 0 0]) (cs := #[.slice none 0 0, .slice none 0 0, .slice none 0 0]) (by kernel_rfl) rfl ?_
              obtain ⟨wAkDkGRK, hw', sw', hv, kw'⟩ := blocks1 wkDkGRK (.cells #[.slice none 0 0, .slice none 0 0, .slice none 0 0] 46)
              rw [← hw']
              clear hw' sw'
              have kAkDkGRK := Lib.hid (KeptB.next (Nat.le_refl _) kDkGRK.out kw')
              have hvx : w8.heap.size ≤ wkDkGRK.heap.size := kDkGRK.out.2.size
              replace o2 := o2.below kw'
              clear kw'
              refine hK.out _ _ kAkDkGRK.out (fun hHeld => ?_)
              clear hK K hHeld
              try simp only [Act.put, List.setIfInBounds_toArray, List.set]
              refine wpAnyH_ready (rs := [8]) (by kernel_rfl) (by simp) ?_
              refine AllReadyH.cons (o := _) (by (simp only [List.getElem?_toArray]; rfl)) (fun K hK => ?_) AllReadyH.nil
              have cv := cell_of_block hv
              have fv := unfrozen_of_block hv
              go_simp
              have kSkAkDkGRK := Lib.hid (KeptB.set (p := ⟨wkDkGRK.heap.size, 2, none⟩) hvx (.slice i2 y'.la.length y'.la.length) (KeptB.set (p := ⟨wkDkGRK.heap.size, 1, none⟩) hvx (.slice i1 y'.fl.length y'.fl.length) (KeptB.set (p := ⟨wkDkGRK.heap.size, 0, none⟩) hvx (.slice i0 y'.es.length y'.es.length) kAkDkGRK.out)))
              replace o2 := o2.set3 hv (.slice i0 y'.es.length y'.es.length) (.slice i1 y'.fl.length y'.fl.length) (.slice i2 y'.la.length y'.la.length)
              replace hv := block_set3 hv (.slice i0 y'.es.length y'.es.length) (.slice i1 y'.fl.length y'.fl.length) (.slice i2 y'.la.length y'.la.length)
              clear cv fv
              refine hK.out _ _ kSkAkDkGRK.out (fun hHeld => ?_)
              clear hK K hHeld
              try simp only [Act.put, List.setIfInBounds_toArray, List.set]
              refine wpAnyH_take (i := 9) (oi := _) (v := ?_) (by (simp only [List.getElem?_toArray]; rfl)) (by kernel_rfl) (by kernel_rfl) (by kernel_rfl) (by exact fun _ _ _ h => h) (Or.inl ⟨by rfl, ?_⟩) (by assumption) ?_
              rotate_left
              · intro wS hSw
                go_simp
                all_goals first | with_reducible rfl | rw [if_neg (by omega)]
              simp only [Act.put, List.setIfInBounds_toArray, List.set]
              refine hfin ⟨.agg #[.slice e0 y.es.length f0, .slice e1 y.fl.length f1, .slice e2 y.la.length f2], undef, undef, i0, i1, i2, y'.es.length, y'.fl.length, y'.la.length, wkDkGRK.heap.size⟩ _ _ _ (by kernel_rfl) ?_ ⟨kSkAkDkGRK.out, hv, hvx, o2.low (Nat.zero_le _)⟩
              simp only [List.setIfInBounds_toArray, List.set]
            refine AllReadyH.cons (o := _) (by (simp only [List.getElem?_toArray]; rfl)) (fun K hK => ?_) ?_
            · skip
              refine step_alloc (by rfl) (by rfl) (z := .agg #[.slice none 0 0, .slice none 0 0, .slice none 0 0]) (cs := #[.slice none 0 0, .slice none 0 0, .slice none 0 0]) (by kernel_rfl) rfl ?_
              obtain ⟨wAkGRK, hw', sw', hv, kw'⟩ := blocks1 wkGRK (.cells #[.slice none 0 0, .slice none 0 0, .slice none 0 0] 46)
              rw [← hw']
              clear hw' sw'
              have kAkGRK := Lib.hid (KeptB.next (Nat.le_refl _) kGRK.out kw')
              have hvx : w8.heap.size ≤ wkGRK.heap.size := kGRK.out.2.size
              replace o2 := o2.below kw'
              clear kw'
              refine hK.out _ _ kAkGRK.out (fun hHeld => ?_)
              clear hK K hHeld
              try simp only [Act.put, List.setIfInBounds_toArray, List.set]
              refine wpAnyH_ready (rs := [3]) (by kernel_rfl) (by simp) ?_
              refine AllReadyH.cons (o := _) (by (simp only [List.getElem?_toArray]; rfl)) (fun K hK => ?_) AllReadyH.nil
              go_simp
              refine (CD.out e0 e1 e2 f0 f1 f2 _ (o2.e.sl five_len) (o2.f.sl int_len) (o2.l.sl int_len)).mono ?_
              clear o2
              rintro e wkDkAkGRK ⟨i0, i1, i2, rfl, o2, kk⟩
              have kDkAkGRK := Lib.hid (KeptB.next (Nat.le_refl _) kAkGRK.out kk)
              replace hv := carryN kk hv
              clear kk
              refine hK.out _ _ kDkAkGRK.out (fun hHeld => ?_)
              clear hK K hHeld
              try simp only [Act.put, List.setIfInBounds_toArray, List.set]
              refine wpAnyH_take (i := 4) (oi := _) (v := ?_) (by (simp only [List.getElem?_toArray]; rfl)) (by kernel_rfl) (by kernel_rfl) (by kernel_rfl) (by exact fun _ _ _ h => h) (Or.inl ⟨by rfl, ?_⟩) (by assumption) ?_
              rotate_left
              · intro wS hSw
                go_simp
                all_goals first | with_reducible rfl | rw [if_neg (by omega)]
              simp only [Act.put, List.setIfInBounds_toArray, List.set]
              refine wpAnyH_take (i := 5) (oi := _) (v := ?_) (by (simp only [List.getElem?_toArray]; rfl)) (by kernel_rfl) (by kernel_rfl) (by kernel_rfl) (by exact fun _ _ _ h => h) (Or.inl ⟨by rfl, ?_⟩) (by assumption) ?_
              rotate_left
              · intro wS hSw
                go_simp
                all_goals first | with_reducible rfl | rw [if_neg (by omega)]
              simp only [Act.put, List.setIfInBounds_toArray, List.set]
              refine wpAnyH_take (i := 6) (oi := _) (v := ?_) (by (simp only [List.getElem?_toArray]; rfl)) (by kernel_rfl) (by kernel_rfl) (by kernel_rfl) (by exact fun _ _ _ h => h) (Or.inl ⟨by rfl, ?_⟩) (by assumption) ?_
              rotate_left
              · intro wS hSw
                go_simp
                all_goals first | with_reducible rfl | rw [if_neg (by omega)]
              simp only [Act.put, List.setIfInBounds_toArray, List.set]
              refine wpAnyH_ready (rs := [8]) (by kernel_rfl) (by simp) ?_
              refine AllReadyH.cons (o := _) (by (simp only [List.getElem?_toArray]; rfl)) (fun K hK => ?_) AllReadyH.nil
              have cv := cell_of_block hv
              have fv := unfrozen_of_block hv
              go_simp
              have kSkDkAkGRK := Lib.hid (KeptB.set (p := ⟨wkGRK.heap.size, 2, none⟩) hvx (.slice i2 y'.la.length y'.la.length) (KeptB.set (p := ⟨wkGRK.heap.size, 1, none⟩) hvx (.slice i1 y'.fl.length y'.fl.length) (KeptB.set (p := ⟨wkGRK.heap.size, 0, none⟩) hvx (.slice i0 y'.es.length y'.es.length) kDkAkGRK.out)))
              replace o2 := o2.set3 hv (.slice i0 y'.es.length y'.es.length) (.slice i1 y'.fl.length y'.fl.length) (.slice i2 y'.la.length y'.la.length)
              replace hv := block_set3 hv (.slice i0 y'.es.length y'.es.length) (.slice i1 y'.fl.length y'.fl.length) (.slice i2 y'.la.length y'.la.length)
              clear cv fv
              refine hK.out _ _ kSkDkAkGRK.out (fun hHeld => ?_)
              clear hK K hHeld
              try simp only [Act.put, List.setIfInBounds_toArray, List.set]
              refine wpAnyH_take (i := 9) (oi := _) (v := ?_) (by (simp only [List.getElem?_toArray]; rfl)) (by kernel_rfl) (by kernel_rfl) (by kernel_rfl) (by exact fun _ _ _ h => h) (Or.inl ⟨by rfl, ?_⟩) (by assumption) ?_
              rotate_left
              · intro wS hSw
                go_simp
                all_goals first | with_reducible rfl | rw [if_neg (by omega)]
              simp only [Act.put, List.setIfInBounds_toArray, List.set]
              refine hfin ⟨.agg #[.slice e0 y.es.length f0, .slice e1 y.fl.length f1, .slice e2 y.la.length f2], undef, undef, i0, i1, i2, y'.es.length, y'.fl.length, y'.la.length, wkGRK.heap.size⟩ _ _ _ (by kernel_rfl) ?_ ⟨kSkDkAkGRK.out, hv, hvx, o2.low (Nat.zero_le _)⟩
              simp only [List.setIfInBounds_toArray, List.set]
            exact AllReadyH.nil
          refine AllReadyH.cons (o := _) (by (simp only [List.getElem?_toArray]; rfl)) (fun K hK => ?_) ?_
          · skip
            refine step_alloc (by rfl) (by rfl) (z := .agg #[.slice none 0 0, .slice none 0 0, .slice none 0 0]) (cs := #[.slice none 0 0, .slice none 0 0, .slice none 0 0]) (by kernel_rfl) rfl ?_
            obtain ⟨wARK, hw', sw', hv, kw'⟩ := blocks1 wd (.cells #[.slice none 0 0, .slice none 0 0, .slice none 0 0] 46)
            rw [← hw']
            clear hw' sw'
            have kARK := Lib.hid (KeptB.next (Nat.le_refl _) RK.out kw')
            have hvx : w8.heap.size ≤ wd.heap.size := RK.out.2.size
            clear kw'
            refine hK.out _ _ kARK.out (fun hHeld => ?_)
            clear hK K hHeld
            try simp only [Act.put, List.setIfInBounds_toArray, List.set]
            refine wpAnyH_ready (rs := [1]) (by kernel_rfl) (by simp) ?_
            refine AllReadyH.cons (o := _) (by (simp only [List.getElem?_toArray]; rfl)) (fun K hK => ?_) AllReadyH.nil
            go_simp
            refine (CU.out _ (below_next W8.out kARK.out.2)).mono ?_
            rintro e wkGkARK ⟨v, rfl, ov, kk⟩
            obtain ⟨e0, f0, e1, f1, e2, f2, rfl, o2⟩ := ov.rows
            clear ov
            have kGkARK := Lib.hid (KeptB.next (Nat.le_refl _) kARK.out kk)
            replace hv := carryN kk hv
            clear kk
            refine hK.out _ _ kGkARK.out (fun hHeld => ?_)
            clear hK K hHeld
            try simp only [Act.put, List.setIfInBounds_toArray, List.set]
            refine wpAnyH_ready (rs := [3]) (by kernel_rfl) (by simp) ?_
            refine AllReadyH.cons (o := _) (by (simp only [List.getElem?_toArray]; rfl)) (fun K hK => ?_) AllReadyH.nil
            go_simp
            refine (CD.out e0 e1 e2 f0 f1 f2 _ (o2.e.sl five_len) (o2.f.sl int_len) (o2.l.sl int_len)).mono ?_
            clear o2
            rintro e wkDkGkARK ⟨i0, i1, i2, rfl, o2, kk⟩
            have kDkGkARK := Lib.hid (KeptB.next (Nat.le_refl _) kGkARK.out kk)
            replace hv := carryN kk hv
            clear kk
            refine hK.out _ _ kDkGkARK.out (fun hHeld => ?_)
            clear hK K hHeld
            try simp only [Act.put, List.setIfInBounds_toArray, List.set]
            refine wpAnyH_take (i := 4) (oi := _) (v := ?_) (by (simp only [List.getElem?_toArray]; rfl)) (by kernel_rfl) (by kernel_rfl) (by kernel_rfl) (by exact fun _ _ _ h => h) (Or.inl ⟨by rfl, ?_⟩) (by assumption) ?_
            rotate_left
            · intro wS hSw
              go_simp
              all_goals first | with_reducible rfl | rw [if_neg (by omega)]
            simp only [Act.put, List.setIfInBounds_toArray, List.set]
            refine wpAnyH_take (i := 5) (oi := _) (v := ?_) (by (simp only [List.getElem?_toArray]; rfl)) (by kernel_rfl) (by kernel_rfl) (by kernel_rfl) (by exact fun _ _ _ h => h) (Or.inl ⟨by rfl, ?_⟩) (by assumption) ?_
            rotate_left
            · intro wS hSw
              go_simp
              all_goals first | with_reducible rfl | rw [if_neg (by omega)]
            simp only [Act.put, List.setIfInBounds_toArray, List.set]
            refine wpAnyH_take (i := 6) (oi := _) (v := ?_) (by (simp only [List.getElem?_toArray]; rfl)) (by kernel_rfl) (by kernel_rfl) (by kernel_rfl) (by exact fun _ _ _ h => h) (Or.inl ⟨by rfl, ?_⟩) (by assumption) ?_
            rotate_left
            · intro wS hSw
              go_simp
              all_goals first | with_reducible rfl | rw [if_neg (by omega)]
            simp only [Act.put, List.setIfInBounds_toArray, List.set]
            refine wpAnyH_ready (rs := [8]) (by kernel_rfl) (by simp) ?_
            refine AllReadyH.cons (o := _) (by (simp only [List.getElem?_toArray]; rfl)) (fun K hK => ?_) AllReadyH.nil
            have cv := cell_of_block hv
            have fv := unfrozen_of_block hv
            go_simp
            have kSkDkGkARK := Lib.hid (KeptB.set (p := ⟨wd.heap.size, 2, none⟩) hvx (.slice i2 y'.la.length y'.la.length) (KeptB.set (p := ⟨wd.heap.size, 1, none⟩) hvx (.slice i1 y'.fl.length y'.fl.length) (KeptB.set (p := ⟨wd.heap.size, 0, none⟩) hvx (.slice i0 y'.es.length y'.es.length) kDkGkARK.out)))
            replace o2 := o2.set3 hv (.slice i0 y'.es.length y'.es.length) (.slice i1 y'.fl.length y'.fl.length) (.slice i2 y'.la.length y'.la.length)
            replace hv := block_set3 hv (.slice i0 y'.es.length y'.es.length) (.slice i1 y'.fl.length y'.fl.length) (.slice i2 y'.la.length y'.la.length)
            clear cv fv
            refine hK.out _ _ kSkDkGkARK.out (fun hHeld => ?_)
            clear hK K hHeld
            try simp only [Act.put, List.setIfInBounds_toArray, List.set]
            refine wpAnyH_take (i := 9) (oi := _) (v := ?_) (by (simp only [List.getElem?_toArray]; rfl)) (by kernel_rfl) (by kernel_rfl) (by kernel_rfl) (by exact fun _ _ _ h => h) (Or.inl ⟨by rfl, ?_⟩) (by assumption) ?_
            rotate_left
            · intro wS hSw
              go_simp
              all_goals first | with_reducible rfl | rw [if_neg (by omega)]
            simp only [Act.put, List.setIfInBounds_toArray, List.set]
            refine hfin ⟨.agg #[.slice e0 y.es.length f0, .slice e1 y.fl.length f1, .slice e2 y.la.length f2], undef, undef, i0, i1, i2, y'.es.length, y'.fl.length, y'.la.length, wd.heap.size⟩ _ _ _ (by kernel_rfl) ?_ ⟨kSkDkGkARK.out, hv, hvx, o2.low (Nat.zero_le _)⟩
            simp only [List.setIfInBounds_toArray, List.set]
          exact AllReadyH.nil
        rintro ⟨_, _, _, g0, g1, g2, l0, l1, l2, P⟩ w9 ⟨k9, VB, hx, o9⟩
        simp only at k9 VB hx o9 ⊢
        simp only [List.setIfInBounds_toArray, List.set]
        refine wpAnyH_done (by kernel_rfl) ?_ _
        have A9 := Lib.hid (carryN k9.2 A8.out)
        have Q9 := Lib.hid (carryN k9.2 Q8.out)
        have X9 := Lib.hid (carryN k9.2 X8.out)
        have PB := Lib.hid VB
        have O9 := Lib.hid o9
        have W9 := Lib.hid (below_next W8.out k9.2)
        have P09 := Lib.hid (P08.out.below k9.2)
        have P19 := Lib.hid (P18.out.below k9.2)
        clear k9 VB hx o9 cX lX cA lA cQ lQ A8 Q8 X8 UB8 P08 P18 U08 U18 W8 CD hHeld
        have HD := Lib.hid (show x.dn.length = z.dn.length + 1 by rw [HDN.out]; simp)
        have CXO := Lib.hid (fun V (k : Below w9.heap.size w9 V) => AheadOk_c x b0 b1 _ _ V (P09.out.below k) (P19.out.below k) HLX2.out)
        have CXG := Lib.hid (fun V (k : Below w9.heap.size w9 V) => AheadGame_c x b0 b1 _ _ V (P09.out.below k) (P19.out.below k) HLX2.out)
        have CXS := Lib.hid (fun V (k : Below w9.heap.size w9 V) => AheadSure_c x b0 b1 _ _ V (P09.out.below k) (P19.out.below k) HLX2.out)
        rw [HBX.out] at CXO
        rw [HSX.out] at CXS
        obtain ⟨D, hDz⟩ : ∃ D, D = z.dn.length := ⟨_, rfl⟩
        have HDZ := Lib.hid hDz.symm
        have hD8 : D ≤ 13 := by have := HS.out; omega
        rw [← hDz] at HD S0 A9 CG ⊢
        rw [HD.out] at CXO CXG CXS P09 X9 ⊢
        have CR := Lib.hid (fun V (k : Below w9.heap.size w9 V) => wpReqs_c (.slice b0 D (D + 1)) (.slice a0 D c0) z.dn V (by
          have h := takeTo (m := D) (P09.out.below k) (Nat.le_succ D)
          rw [HDN.out, List.take_left' HDZ.out] at h
          exact h) (S0.out.below (below_next W9.out k)))
        clear hDz
        obtain ⟨-, hlc0, hmx0, hr0⟩ := P09.out.bounds
        unfold maxLen at hmx0
        obtain ⟨F, oF, hF, hlF, hcF⟩ := hr0 D (by rw [HD.out]; omega)
        subst hF
        have eD : x.dn[D]'(by rw [HD.out]; omega) = r := by
          have h : x.dn[D]? = some r := by rw [HDN.out, List.getElem?_append_right (by rw [HDZ.out]; omega), HDZ.out]; simp
          rw [List.getElem?_eq_getElem (by rw [HD.out]; omega)] at h
          injection h
        rw [eD] at hcF
        have HCF := Lib.hid hcF
        clear hr0 hcF eD hlF
        have cX := cell_of_block X9.out
        have lX := lt_of_block X9.out
        have cA := cell_of_block A9.out
        have lA := lt_of_block A9.out
        have cQ := cell_of_block Q9.out
        have lQ := lt_of_block Q9.out
        have cP := cell_of_block PB.out
        have lP := lt_of_block PB.out
        have hD0 : (0 : Int) ≤ (D : Int) := by omega
        have hw1 : IntKind.i64.wrap (((D + 1 : Nat) : Int) - 1) = (D : Int) := by
          have : (((D + 1 : Nat) : Int) - 1) = (D : Int) := by omega
          rw [this]
          exact IntWalk.i64_in _ ⟨by omega, by omega⟩
        have hw2 : IntKind.i64.wrap (D : Int) = (D : Int) := IntWalk.i64_in _ ⟨by omega, by omega⟩
        have hD1 : (D : Int) < ((D + 1 : Nat) : Int) := by omega
        have hD2 : (D : Int) < (D : Int) + 1 := by omega
        have hD3 : (D : Int) ≤ ((D + 1 : Nat) : Int) := by omega
        have hD4 : (D : Int) ≤ (D : Int) + 1 := by omega
        have hD5 : D ≤ D + 1 := by omega
        have HE := eqR_refl r.c r.n r.o r.x r.y
        obtain ⟨-, hlc1, hmx1, hr1⟩ := (S1.out.below W9.out).bounds
        unfold maxLen at hmx1
        have hge := HGE.out
        obtain ⟨n1, hn1⟩ : ∃ n1, n1 = z.wt.length := ⟨_, rfl⟩
        have HN1 := Lib.hid hn1.symm
        rw [← hn1] at A9 cA CG hlc1 ⊢
        clear hn1
        by_cases hw0 : n1 = 0
        · subst hw0
          go_wp2_with fail
          refine wp_region_held_drew (S := fun w' => ((∀ b o, b < w9.heap.size → (w').cell? ⟨b, o, none⟩ = (w9).cell? ⟨b, o, none⟩) ∧ Below (w9.heap.size) (w9) (w'))) (by kernel_rfl) (KeptB.drew (KeptB.refl _ _)) (fun hHeld => ?_)
          refine wpAnyH_take (i := 0) (oi := _) (v := ?_) (by (simp only [List.getElem?_toArray]; rfl)) (by kernel_rfl) (by kernel_rfl) (by kernel_rfl) (by exact fun _ _ _ h => h) (Or.inl ⟨by rfl, ?_⟩) (by assumption) ?_
          rotate_left
          · intro wS hSw
            go_simp
            all_goals first | with_reducible rfl | rw [if_neg (by omega)]
          simp only [Act.put, List.setIfInBounds_toArray, List.set]
          refine wpAnyH_take (i := 1) (oi := _) (v := ?_) (by (simp only [List.getElem?_toArray]; rfl)) (by kernel_rfl) (by kernel_rfl) (by kernel_rfl) (by exact fun _ _ _ h => h) (Or.inl ⟨by rfl, ?_⟩) (by assumption) ?_
          rotate_left
          · intro wS hSw
            go_simp
            all_goals first | with_reducible rfl | rw [if_neg (by omega)]
          simp only [Act.put, List.setIfInBounds_toArray, List.set]
          refine wpAnyH_take (i := 2) (oi := _) (v := ?_) (by (simp only [List.getElem?_toArray]; rfl)) (by kernel_rfl) (by kernel_rfl) (by kernel_rfl) (by exact fun _ _ _ h => h) (Or.inl ⟨by rfl, ?_⟩) (by assumption) ?_
          rotate_left
          · intro wS hSw
            go_simp
            all_goals first | with_reducible rfl | rw [if_neg (by omega)]
          simp only [Act.put, List.setIfInBounds_toArray, List.set]
          refine wpAnyH_take (i := 3) (oi := _) (v := ?_) (by (simp only [List.getElem?_toArray]; rfl)) (by kernel_rfl) (by kernel_rfl) (by kernel_rfl) (by exact fun _ _ _ h => h) (Or.inl ⟨by rfl, ?_⟩) (by assumption) ?_
          rotate_left
          · intro wS hSw
            go_simp
            all_goals first | with_reducible rfl | rw [if_neg (by omega)]
          simp only [Act.put, List.setIfInBounds_toArray, List.set]
          refine wpAnyH_take (i := 4) (oi := _) (v := ?_) (by (simp only [List.getElem?_toArray]; rfl)) (by kernel_rfl) (by kernel_rfl) (by kernel_rfl) (by exact fun _ _ _ h => h) (Or.inl ⟨by rfl, ?_⟩) (by assumption) ?_
          rotate_left
          · intro wS hSw
            go_simp
            all_goals first | with_reducible rfl | rw [if_neg (by omega)]
          simp only [Act.put, List.setIfInBounds_toArray, List.set]
          refine wpAnyH_take (i := 5) (oi := _) (v := undef) (by (simp only [List.getElem?_toArray]; rfl)) (by kernel_rfl) (by kernel_rfl) (by kernel_rfl) (by exact fun _ _ _ h => h) (Or.inr ⟨by rfl, rfl⟩) (by assumption) ?_
          simp only [Act.put, List.setIfInBounds_toArray, List.set]
          refine wpAnyH_take (i := 6) (oi := _) (v := undef) (by (simp only [List.getElem?_toArray]; rfl)) (by kernel_rfl) (by kernel_rfl) (by kernel_rfl) (by exact fun _ _ _ h => h) (Or.inr ⟨by rfl, rfl⟩) (by assumption) ?_
          simp only [Act.put, List.setIfInBounds_toArray, List.set]
          refine wpAnyH_take (i := 7) (oi := _) (v := undef) (by (simp only [List.getElem?_toArray]; rfl)) (by kernel_rfl) (by kernel_rfl) (by kernel_rfl) (by exact fun _ _ _ h => h) (Or.inr ⟨by rfl, rfl⟩) (by assumption) ?_
          simp only [Act.put, List.setIfInBounds_toArray, List.set]
          refine wpAnyH_take (i := 8) (oi := _) (v := undef) (by (simp only [List.getElem?_toArray]; rfl)) (by kernel_rfl) (by kernel_rfl) (by kernel_rfl) (by exact fun _ _ _ h => h) (Or.inr ⟨by rfl, rfl⟩) (by assumption) ?_
          simp only [Act.put, List.setIfInBounds_toArray, List.set]
          refine wpAnyH_take (i := 9) (oi := _) (v := undef) (by (simp only [List.getElem?_toArray]; rfl)) (by kernel_rfl) (by kernel_rfl) (by kernel_rfl) (by exact fun _ _ _ h => h) (Or.inr ⟨by rfl, rfl⟩) (by assumption) ?_
          simp only [Act.put, List.setIfInBounds_toArray, List.set]
          refine wpAnyH_take (i := 10) (oi := _) (v := undef) (by (simp only [List.getElem?_toArray]; rfl)) (by kernel_rfl) (by kernel_rfl) (by kernel_rfl) (by exact fun _ _ _ h => h) (Or.inr ⟨by rfl, rfl⟩) (by assumption) ?_
          simp only [Act.put, List.setIfInBounds_toArray, List.set]
          refine wpAnyH_take (i := 11) (oi := _) (v := ?_) (by (simp only [List.getElem?_toArray]; rfl)) (by kernel_rfl) (by kernel_rfl) (by kernel_rfl) (by exact fun _ _ _ h => h) (Or.inl ⟨by rfl, ?_⟩) (by assumption) ?_
          rotate_left
          · intro wS hSw
            go_simp
            all_goals first | with_reducible rfl | rw [if_neg (by omega)]
          simp only [Act.put, List.setIfInBounds_toArray, List.set]
          refine wpAnyH_take (i := 12) (oi := _) (v := ?_) (by (simp only [List.getElem?_toArray]; rfl)) (by kernel_rfl) (by kernel_rfl) (by kernel_rfl) (by exact fun _ _ _ h => h) (Or.inl ⟨by rfl, ?_⟩) (by assumption) ?_
          rotate_left
          · intro wS hSw
            go_simp
            all_goals first | with_reducible rfl | rw [if_neg (by omega)]
          simp only [Act.put, List.setIfInBounds_toArray, List.set]
          refine wpAnyH_done (by kernel_rfl) ?_ _
          have t9 := Lib.hid (KeptB.drew (KeptB.refl w9.heap.size w9))
          clear hHeld
          have A10 := Lib.hid (carryN t9.out.2 A9.out)
          have Q10 := Lib.hid (carryN t9.out.2 Q9.out)
          have X10 := Lib.hid (carryN t9.out.2 X9.out)
          have PB10 := Lib.hid (carryN t9.out.2 PB.out)
          have O10 := Lib.hid (O9.out.below t9.out.2)
          have hk9 := t9.out.2
          obtain ⟨w10, hw10⟩ : ∃ V, V = w9.drew := ⟨_, rfl⟩
          rw [← hw10] at A10 Q10 X10 PB10 O10 hk9 ⊢
          have T9 := Lib.hid hk9
          have f0 := HCF.out 0 (by decide)
          have f1 := HCF.out 1 (by decide)
          have f2 := HCF.out 2 (by decide)
          have f3 := HCF.out 3 (by decide)
          have f4 := HCF.out 4 (by decide)
          replace f0 : w10.cell? ⟨F, oF + D * 5, none⟩ = some (.int .i64 r.c) := by rw [hw10]; exact f0
          replace f1 : w10.cell? ⟨F, oF + D * 5 + 1, none⟩ = some (.int .i64 r.n) := by rw [hw10]; exact f1
          replace f2 : w10.cell? ⟨F, oF + D * 5 + 2, none⟩ = some (.int .i64 r.o) := by rw [hw10]; exact f2
          replace f3 : w10.cell? ⟨F, oF + D * 5 + 3, none⟩ = some (.int .i64 r.x) := by rw [hw10]; exact f3
          replace f4 : w10.cell? ⟨F, oF + D * 5 + 4, none⟩ = some (.int .i64 r.y) := by rw [hw10]; exact f4
          have hFl : F < w10.heap.size := by
            obtain ⟨-, -, -, hh⟩ := (P09.out.below hk9).bounds
            obtain ⟨F', o', hq, hl, -⟩ := hh D (by rw [HD.out]; omega)
            injection hq with hq
            injection hq with hq
            rw [hq]; exact hl
          clear hw10 t9 hk9 cX lX cA lA cQ lQ cP lP A9 Q9 X9 PB O9 hr1
          have cX := cell_of_block X10.out
          have lX := lt_of_block X10.out
          have cA := cell_of_block A10.out
          have lA := lt_of_block A10.out
          have cQ := cell_of_block Q10.out
          have lQ := lt_of_block Q10.out
          have cP := cell_of_block PB10.out
          have lP := lt_of_block PB10.out
          go_wp2_with fail
          refine wp_region_held_drew (S := fun w' => ((∀ b o, b < w10.heap.size → (w').cell? ⟨b, o, none⟩ = (w10).cell? ⟨b, o, none⟩) ∧ Below (w10.heap.size) (w10) (w'))) (by kernel_rfl) (KeptB.drew (KeptB.refl _ _)) (fun hHeld => ?_)
          refine wpAnyH_take (i := 0) (oi := _) (v := ?_) (by (simp only [List.getElem?_toArray]; rfl)) (by kernel_rfl) (by kernel_rfl) (by kernel_rfl) (by exact fun _ _ _ h => h) (Or.inl ⟨by rfl, ?_⟩) (by assumption) ?_
          rotate_left
          · intro wS hSw
            go_simp
            all_goals first | with_reducible rfl | rw [if_neg (by omega)]
          simp only [Act.put, List.setIfInBounds_toArray, List.set]
          have t0 := Lib.hid (KeptB.drew (KeptB.refl w10.heap.size w10))
          clear hHeld
          refine wpAnyH_ready (rs := [1]) (by kernel_rfl) (by simp) ?_
          refine AllReadyH.cons (o := _) (by (simp only [List.getElem?_toArray]; rfl)) (fun K hK => ?_) AllReadyH.nil
          go_simp
          refine (CXO.out _ (below_next T9.out t0.out.2)).mono ?_
          rintro e u1 ⟨rfl, kk⟩
          have t1 := Lib.hid (KeptB.next (Nat.le_refl _) t0.out kk)
          clear kk
          refine hK.out _ _ t1.out (fun hHeld => ?_)
          clear hK K
          try simp only [Act.put, List.setIfInBounds_toArray, List.set]
          refine wpAnyH_take (i := 2) (oi := _) (v := ?_) (by (simp only [List.getElem?_toArray]; rfl)) (by kernel_rfl) (by kernel_rfl) (by kernel_rfl) (by exact fun _ _ _ h => h) (Or.inl ⟨by rfl, ?_⟩) (by assumption) ?_
          rotate_left
          · intro wS hSw
            go_simp
            all_goals first | with_reducible rfl | rw [if_neg (by omega)]
          simp only [Act.put, List.setIfInBounds_toArray, List.set]
          refine wpAnyH_take (i := 3) (oi := _) (v := ?_) (by (simp only [List.getElem?_toArray]; rfl)) (by kernel_rfl) (by kernel_rfl) (by kernel_rfl) (by exact fun _ _ _ h => h) (Or.inl ⟨by rfl, ?_⟩) (by assumption) ?_
          rotate_left
          · intro wS hSw
            go_simp
            all_goals first | with_reducible rfl | rw [if_neg (by omega)]
          simp only [Act.put, List.setIfInBounds_toArray, List.set]
          refine wpAnyH_take (i := 5) (oi := _) (v := ?_) (by (simp only [List.getElem?_toArray]; rfl)) (by kernel_rfl) (by kernel_rfl) (by kernel_rfl) (by exact fun _ _ _ h => h) (Or.inl ⟨by rfl, ?_⟩) (by assumption) ?_
          rotate_left
          · intro wS hSw
            go_simp
            all_goals first | with_reducible rfl | rw [if_neg (by omega)]
          simp only [Act.put, List.setIfInBounds_toArray, List.set]
          clear hHeld
          refine wpAnyH_ready (rs := [4]) (by kernel_rfl) (by simp) ?_
          refine AllReadyH.cons (o := _) (by (simp only [List.getElem?_toArray]; rfl)) (fun K hK => ?_) AllReadyH.nil
          go_simp
          refine (CXS.out _ (below_next T9.out t1.out.2)).mono ?_
          rintro e u2 ⟨v1, rfl, ov1, kk⟩
          obtain ⟨p0, q0, p1, q1, p2, q2, rfl, o1⟩ := ov1.rows
          have t2 := Lib.hid (KeptB.next (Nat.le_refl _) t1.out kk)
          have Q1 := Lib.hid o1
          clear kk ov1 o1
          refine hK.out _ _ t2.out (fun hHeld => ?_)
          clear hK K
          try simp only [Act.put, List.setIfInBounds_toArray, List.set]
          clear hHeld
          refine wpAnyH_ready (rs := [6]) (by kernel_rfl) (by simp) ?_
          refine AllReadyH.cons (o := _) (by (simp only [List.getElem?_toArray]; rfl)) (fun K hK => ?_) AllReadyH.nil
          go_simp
          refine (wpGame_c y' p0 p1 p2 g0 g1 g2 _ _ _ q0 q1 q2 _ _ _ _ (Q1.out.e.sl five_len) (Q1.out.f.sl int_len) (Q1.out.l.sl int_len) ((O10.out.below t2.out.2).e.sl five_len) ((O10.out.below t2.out.2).f.sl int_len) ((O10.out.below t2.out.2).l.sl int_len)).mono ?_
          rintro e u3 ⟨rfl, kk⟩
          have t3 := Lib.hid (KeptB.next (Nat.le_refl _) t2.out kk)
          clear kk Q1
          refine hK.out _ _ t3.out (fun hHeld => ?_)
          clear hK K
          try simp only [Act.put, List.setIfInBounds_toArray, List.set]
          refine wpAnyH_take (i := 7) (oi := _) (v := ?_) (by (simp only [List.getElem?_toArray]; rfl)) (by kernel_rfl) (by kernel_rfl) (by kernel_rfl) (by exact fun _ _ _ h => h) (Or.inl ⟨by rfl, ?_⟩) (by assumption) ?_
          rotate_left
          · intro wS hSw
            go_simp
            all_goals first | with_reducible rfl | rw [if_neg (by omega)]
          simp only [Act.put, List.setIfInBounds_toArray, List.set]
          refine wpAnyH_take (i := 8) (oi := _) (v := ?_) (by (simp only [List.getElem?_toArray]; rfl)) (by kernel_rfl) (by kernel_rfl) (by kernel_rfl) (by exact fun _ _ _ h => h) (Or.inl ⟨by rfl, ?_⟩) (by assumption) ?_
          rotate_left
          · intro wS hSw
            go_simp
            all_goals first | with_reducible rfl | rw [if_neg (by omega)]
          simp only [Act.put, List.setIfInBounds_toArray, List.set]
          refine wpAnyH_take (i := 9) (oi := _) (v := ?_) (by (simp only [List.getElem?_toArray]; rfl)) (by kernel_rfl) (by kernel_rfl) (by kernel_rfl) (by exact fun _ _ _ h => h) (Or.inl ⟨by rfl, ?_⟩) (by assumption) ?_
          rotate_left
          · intro wS hSw
            go_simp
            all_goals first | with_reducible rfl | rw [if_neg (by omega)]
          simp only [Act.put, List.setIfInBounds_toArray, List.set]
          refine wpAnyH_take (i := 10) (oi := _) (v := ?_) (by (simp only [List.getElem?_toArray]; rfl)) (by kernel_rfl) (by kernel_rfl) (by kernel_rfl) (by exact fun _ _ _ h => h) (Or.inl ⟨by rfl, ?_⟩) (by assumption) ?_
          rotate_left
          · intro wS hSw
            go_simp
            all_goals first | with_reducible rfl | rw [if_neg (by omega)]
          simp only [Act.put, List.setIfInBounds_toArray, List.set]
          refine wpAnyH_take (i := 11) (oi := _) (v := ?_) (by (simp only [List.getElem?_toArray]; rfl)) (by kernel_rfl) (by kernel_rfl) (by kernel_rfl) (by exact fun _ _ _ h => h) (Or.inl ⟨by rfl, ?_⟩) (by assumption) ?_
          rotate_left
          · intro wS hSw
            go_simp
            all_goals first | with_reducible rfl | rw [if_neg (by omega)]
          simp only [Act.put, List.setIfInBounds_toArray, List.set]
          refine wpAnyH_take (i := 12) (oi := _) (v := ?_) (by (simp only [List.getElem?_toArray]; rfl)) (by kernel_rfl) (by kernel_rfl) (by kernel_rfl) (by exact fun _ _ _ h => h) (Or.inl ⟨by rfl, ?_⟩) (by assumption) ?_
          rotate_left
          · intro wS hSw
            go_simp
            all_goals first | with_reducible rfl | rw [if_neg (by omega)]
          simp only [Act.put, List.setIfInBounds_toArray, List.set]
          refine wpAnyH_take (i := 13) (oi := _) (v := ?_) (by (simp only [List.getElem?_toArray]; rfl)) (by kernel_rfl) (by kernel_rfl) (by kernel_rfl) (by exact fun _ _ _ h => h) (Or.inl ⟨by rfl, ?_⟩) (by assumption) ?_
          rotate_left
          · intro wS hSw
            go_simp
            all_goals first | with_reducible rfl | rw [if_neg (by omega)]
          simp only [Act.put, List.setIfInBounds_toArray, List.set]
          refine wpAnyH_take (i := 14) (oi := _) (v := ?_) (by (simp only [List.getElem?_toArray]; rfl)) (by kernel_rfl) (by kernel_rfl) (by kernel_rfl) (by exact fun _ _ _ h => h) (Or.inl ⟨by rfl, ?_⟩) (by assumption) ?_
          rotate_left
          · intro wS hSw
            go_simp
            all_goals first | with_reducible rfl | rw [if_neg (by omega)]
          simp only [Act.put, List.setIfInBounds_toArray, List.set]
          refine wpAnyH_take (i := 15) (oi := _) (v := ?_) (by (simp only [List.getElem?_toArray]; rfl)) (by kernel_rfl) (by kernel_rfl) (by kernel_rfl) (by exact fun _ _ _ h => h) (Or.inl ⟨by rfl, ?_⟩) (by assumption) ?_
          rotate_left
          · intro wS hSw
            go_simp
            all_goals first | with_reducible rfl | rw [if_neg (by omega)]
          simp only [Act.put, List.setIfInBounds_toArray, List.set]
          clear hHeld
          refine wpAnyH_ready (rs := [16]) (by kernel_rfl) (by simp) ?_
          refine AllReadyH.cons (o := _) (by (simp only [List.getElem?_toArray]; rfl)) (fun K hK => ?_) AllReadyH.nil
          go_simp
          refine (CR.out _ (below_next T9.out t3.out.2)).mono ?_
          rintro e u4 ⟨rfl, kk⟩
          have t4 := Lib.hid (KeptB.next (Nat.le_refl _) t3.out kk)
          clear kk
          refine hK.out _ _ t4.out (fun hHeld => ?_)
          clear hK K
          try simp only [Act.put, List.setIfInBounds_toArray, List.set]
          refine wpAnyH_take (i := 17) (oi := _) (v := ?_) (by (simp only [List.getElem?_toArray]; rfl)) (by kernel_rfl) (by kernel_rfl) (by kernel_rfl) (by exact fun _ _ _ h => h) (Or.inl ⟨by rfl, ?_⟩) (by assumption) ?_
          rotate_left
          · intro wS hSw
            go_simp
            all_goals first | with_reducible rfl | rw [if_neg (by omega)]
          simp only [Act.put, List.setIfInBounds_toArray, List.set]
          refine wpAnyH_take (i := 18) (oi := _) (v := ?_) (by (simp only [List.getElem?_toArray]; rfl)) (by kernel_rfl) (by kernel_rfl) (by kernel_rfl) (by exact fun _ _ _ h => h) (Or.inl ⟨by rfl, ?_⟩) (by assumption) ?_
          rotate_left
          · intro wS hSw
            go_simp
            all_goals first | with_reducible rfl | rw [if_neg (by omega)]
          simp only [Act.put, List.setIfInBounds_toArray, List.set]
          refine wpAnyH_take (i := 19) (oi := _) (v := ?_) (by (simp only [List.getElem?_toArray]; rfl)) (by kernel_rfl) (by kernel_rfl) (by kernel_rfl) (by exact fun _ _ _ h => h) (Or.inl ⟨by rfl, ?_⟩) (by assumption) ?_
          rotate_left
          · intro wS hSw
            go_simp
            all_goals first | with_reducible rfl | rw [if_neg (by omega)]
          simp only [Act.put, List.setIfInBounds_toArray, List.set]
          refine wpAnyH_take (i := 20) (oi := _) (v := ?_) (by (simp only [List.getElem?_toArray]; rfl)) (by kernel_rfl) (by kernel_rfl) (by kernel_rfl) (by exact fun _ _ _ h => h) (Or.inl ⟨by rfl, ?_⟩) (by assumption) ?_
          rotate_left
          · intro wS hSw
            go_simp
            all_goals first | with_reducible rfl | rw [if_neg (by omega)]
          simp only [Act.put, List.setIfInBounds_toArray, List.set]
          refine wpAnyH_take (i := 21) (oi := _) (v := ?_) (by (simp only [List.getElem?_toArray]; rfl)) (by kernel_rfl) (by kernel_rfl) (by kernel_rfl) (by exact fun _ _ _ h => h) (Or.inl ⟨by rfl, ?_⟩) (by assumption) ?_
          rotate_left
          · intro wS hSw
            go_simp
            all_goals first | with_reducible rfl | rw [if_neg (by omega)]
          simp only [Act.put, List.setIfInBounds_toArray, List.set]
          refine wpAnyH_take (i := 22) (oi := _) (v := ?_) (by (simp only [List.getElem?_toArray]; rfl)) (by kernel_rfl) (by kernel_rfl) (by kernel_rfl) (by exact fun _ _ _ h => h) (Or.inl ⟨by rfl, ?_⟩) (by assumption) ?_
          rotate_left
          · intro wS hSw
            go_simp
            all_goals first | with_reducible rfl | rw [if_neg (by omega)]
          simp only [Act.put, List.setIfInBounds_toArray, List.set]
          refine wpAnyH_take (i := 23) (oi := _) (v := ?_) (by (simp only [List.getElem?_toArray]; rfl)) (by kernel_rfl) (by kernel_rfl) (by kernel_rfl) (by exact fun _ _ _ h => h) (Or.inl ⟨by rfl, ?_⟩) (by assumption) ?_
          rotate_left
          · intro wS hSw
            go_simp
            all_goals first | with_reducible rfl | rw [if_neg (by omega)]
          simp only [Act.put, List.setIfInBounds_toArray, List.set]
          refine wpAnyH_take (i := 24) (oi := _) (v := ?_) (by (simp only [List.getElem?_toArray]; rfl)) (by kernel_rfl) (by kernel_rfl) (by kernel_rfl) (by exact fun _ _ _ h => h) (Or.inl ⟨by rfl, ?_⟩) (by assumption) ?_
          rotate_left
          · intro wS hSw
            go_simp
            all_goals first | with_reducible rfl | rw [if_neg (by omega)]
          simp only [Act.put, List.setIfInBounds_toArray, List.set]
          refine wpAnyH_take (i := 25) (oi := _) (v := ?_) (by (simp only [List.getElem?_toArray]; rfl)) (by kernel_rfl) (by kernel_rfl) (by kernel_rfl) (by exact fun _ _ _ h => h) (Or.inl ⟨by rfl, ?_⟩) (by assumption) ?_
          rotate_left
          · intro wS hSw
            go_simp
            all_goals first | with_reducible rfl | rw [if_neg (by omega)]
          simp only [Act.put, List.setIfInBounds_toArray, List.set]
          refine wpAnyH_take (i := 26) (oi := _) (v := ?_) (by (simp only [List.getElem?_toArray]; rfl)) (by kernel_rfl) (by kernel_rfl) (by kernel_rfl) (by exact fun _ _ _ h => h) (Or.inl ⟨by rfl, ?_⟩) (by assumption) ?_
          rotate_left
          · intro wS hSw
            go_simp
            all_goals first | with_reducible rfl | rw [if_neg (by omega)]
          simp only [Act.put, List.setIfInBounds_toArray, List.set]
          refine wpAnyH_take (i := 27) (oi := _) (v := ?_) (by (simp only [List.getElem?_toArray]; rfl)) (by kernel_rfl) (by kernel_rfl) (by kernel_rfl) (by exact fun _ _ _ h => h) (Or.inl ⟨by rfl, ?_⟩) (by assumption) ?_
          rotate_left
          · intro wS hSw
            go_simp
            all_goals first | with_reducible rfl | rw [if_neg (by omega)]
          simp only [Act.put, List.setIfInBounds_toArray, List.set]
          refine wpAnyH_take (i := 28) (oi := _) (v := ?_) (by (simp only [List.getElem?_toArray]; rfl)) (by kernel_rfl) (by kernel_rfl) (by kernel_rfl) (by exact fun _ _ _ h => h) (Or.inl ⟨by rfl, ?_⟩) (by assumption) ?_
          rotate_left
          · intro wS hSw
            go_simp
            all_goals first | with_reducible rfl | rw [if_neg (by omega)]
          simp only [Act.put, List.setIfInBounds_toArray, List.set]
          refine wpAnyH_take (i := 29) (oi := _) (v := ?_) (by (simp only [List.getElem?_toArray]; rfl)) (by kernel_rfl) (by kernel_rfl) (by kernel_rfl) (by exact fun _ _ _ h => h) (Or.inl ⟨by rfl, ?_⟩) (by assumption) ?_
          rotate_left
          · intro wS hSw
            go_simp
            all_goals first | with_reducible rfl | rw [if_neg (by omega)]
          simp only [Act.put, List.setIfInBounds_toArray, List.set]
          refine wpAnyH_take (i := 30) (oi := _) (v := ?_) (by (simp only [List.getElem?_toArray]; rfl)) (by kernel_rfl) (by kernel_rfl) (by kernel_rfl) (by exact fun _ _ _ h => h) (Or.inl ⟨by rfl, ?_⟩) (by assumption) ?_
          rotate_left
          · intro wS hSw
            go_simp
            all_goals first | with_reducible rfl | rw [if_neg (by omega)]
          simp only [Act.put, List.setIfInBounds_toArray, List.set]
          refine wpAnyH_take (i := 31) (oi := _) (v := ?_) (by (simp only [List.getElem?_toArray]; rfl)) (by kernel_rfl) (by kernel_rfl) (by kernel_rfl) (by exact fun _ _ _ h => h) (Or.inl ⟨by rfl, ?_⟩) (by assumption) ?_
          rotate_left
          · intro wS hSw
            go_simp
            all_goals first | with_reducible rfl | rw [if_neg (by omega)]
          simp only [Act.put, List.setIfInBounds_toArray, List.set]
          refine wpAnyH_take (i := 32) (oi := _) (v := undef) (by (simp only [List.getElem?_toArray]; rfl)) (by kernel_rfl) (by kernel_rfl) (by kernel_rfl) (by exact fun _ _ _ h => h) (Or.inr ⟨by rfl, rfl⟩) (by assumption) ?_
          simp only [Act.put, List.setIfInBounds_toArray, List.set]
          refine wpAnyH_take (i := 33) (oi := _) (v := undef) (by (simp only [List.getElem?_toArray]; rfl)) (by kernel_rfl) (by kernel_rfl) (by kernel_rfl) (by exact fun _ _ _ h => h) (Or.inr ⟨by rfl, rfl⟩) (by assumption) ?_
          simp only [Act.put, List.setIfInBounds_toArray, List.set]
          refine wpAnyH_take (i := 34) (oi := _) (v := undef) (by (simp only [List.getElem?_toArray]; rfl)) (by kernel_rfl) (by kernel_rfl) (by kernel_rfl) (by exact fun _ _ _ h => h) (Or.inr ⟨by rfl, rfl⟩) (by assumption) ?_
          simp only [Act.put, List.setIfInBounds_toArray, List.set]
          refine wpAnyH_take (i := 35) (oi := _) (v := undef) (by (simp only [List.getElem?_toArray]; rfl)) (by kernel_rfl) (by kernel_rfl) (by kernel_rfl) (by exact fun _ _ _ h => h) (Or.inr ⟨by rfl, rfl⟩) (by assumption) ?_
          simp only [Act.put, List.setIfInBounds_toArray, List.set]
          refine wpAnyH_take (i := 36) (oi := _) (v := undef) (by (simp only [List.getElem?_toArray]; rfl)) (by kernel_rfl) (by kernel_rfl) (by kernel_rfl) (by exact fun _ _ _ h => h) (Or.inr ⟨by rfl, rfl⟩) (by assumption) ?_
          simp only [Act.put, List.setIfInBounds_toArray, List.set]
          refine wpAnyH_take (i := 37) (oi := _) (v := undef) (by (simp only [List.getElem?_toArray]; rfl)) (by kernel_rfl) (by kernel_rfl) (by kernel_rfl) (by exact fun _ _ _ h => h) (Or.inr ⟨by rfl, rfl⟩) (by assumption) ?_
          simp only [Act.put, List.setIfInBounds_toArray, List.set]
          refine wpAnyH_take (i := 38) (oi := _) (v := undef) (by (simp only [List.getElem?_toArray]; rfl)) (by kernel_rfl) (by kernel_rfl) (by kernel_rfl) (by exact fun _ _ _ h => h) (Or.inr ⟨by rfl, rfl⟩) (by assumption) ?_
          simp only [Act.put, List.setIfInBounds_toArray, List.set]
          refine wpAnyH_take (i := 39) (oi := _) (v := undef) (by (simp only [List.getElem?_toArray]; rfl)) (by kernel_rfl) (by kernel_rfl) (by kernel_rfl) (by exact fun _ _ _ h => h) (Or.inr ⟨by rfl, rfl⟩) (by assumption) ?_
          simp only [Act.put, List.setIfInBounds_toArray, List.set]
          refine wpAnyH_take (i := 40) (oi := _) (v := undef) (by (simp only [List.getElem?_toArray]; rfl)) (by kernel_rfl) (by kernel_rfl) (by kernel_rfl) (by exact fun _ _ _ h => h) (Or.inr ⟨by rfl, rfl⟩) (by assumption) ?_
          simp only [Act.put, List.setIfInBounds_toArray, List.set]
          refine wpAnyH_take (i := 41) (oi := _) (v := undef) (by (simp only [List.getElem?_toArray]; rfl)) (by kernel_rfl) (by kernel_rfl) (by kernel_rfl) (by exact fun _ _ _ h => h) (Or.inr ⟨by rfl, rfl⟩) (by assumption) ?_
          simp only [Act.put, List.setIfInBounds_toArray, List.set]
          refine wpAnyH_take (i := 42) (oi := _) (v := undef) (by (simp only [List.getElem?_toArray]; rfl)) (by kernel_rfl) (by kernel_rfl) (by kernel_rfl) (by exact fun _ _ _ h => h) (Or.inr ⟨by rfl, rfl⟩) (by assumption) ?_
          simp only [Act.put, List.setIfInBounds_toArray, List.set]
          refine wpAnyH_take (i := 43) (oi := _) (v := undef) (by (simp only [List.getElem?_toArray]; rfl)) (by kernel_rfl) (by kernel_rfl) (by kernel_rfl) (by exact fun _ _ _ h => h) (Or.inr ⟨by rfl, rfl⟩) (by assumption) ?_
          simp only [Act.put, List.setIfInBounds_toArray, List.set]
          refine wpAnyH_take (i := 44) (oi := _) (v := ?_) (by (simp only [List.getElem?_toArray]; rfl)) (by kernel_rfl) (by kernel_rfl) (by kernel_rfl) (by exact fun _ _ _ h => h) (Or.inl ⟨by rfl, ?_⟩) (by assumption) ?_
          rotate_left
          · intro wS hSw
            go_simp
            all_goals first | with_reducible rfl | rw [if_neg (by omega)]
          simp only [Act.put, List.setIfInBounds_toArray, List.set]
          refine wpAnyH_take (i := 45) (oi := _) (v := ?_) (by (simp only [List.getElem?_toArray]; rfl)) (by kernel_rfl) (by kernel_rfl) (by kernel_rfl) (by exact fun _ _ _ h => h) (Or.inl ⟨by rfl, ?_⟩) (by assumption) ?_
          rotate_left
          · intro wS hSw
            go_simp
            all_goals first | with_reducible rfl | rw [if_neg (by omega)]
          simp only [Act.put, List.setIfInBounds_toArray, List.set]
          refine wpAnyH_take (i := 46) (oi := _) (v := ?_) (by (simp only [List.getElem?_toArray]; rfl)) (by kernel_rfl) (by kernel_rfl) (by kernel_rfl) (by exact fun _ _ _ h => h) (Or.inl ⟨by rfl, ?_⟩) (by assumption) ?_
          rotate_left
          · intro wS hSw
            go_simp
            all_goals first | with_reducible rfl | rw [if_neg (by omega)]
          simp only [Act.put, List.setIfInBounds_toArray, List.set]
          refine wpAnyH_take (i := 47) (oi := _) (v := ?_) (by (simp only [List.getElem?_toArray]; rfl)) (by kernel_rfl) (by kernel_rfl) (by kernel_rfl) (by exact fun _ _ _ h => h) (Or.inl ⟨by rfl, ?_⟩) (by assumption) ?_
          rotate_left
          · intro wS hSw
            go_simp
            all_goals first | with_reducible rfl | rw [if_neg (by omega)]
          simp only [Act.put, List.setIfInBounds_toArray, List.set]
          refine wpAnyH_take (i := 48) (oi := _) (v := ?_) (by (simp only [List.getElem?_toArray]; rfl)) (by kernel_rfl) (by kernel_rfl) (by kernel_rfl) (by exact fun _ _ _ h => h) (Or.inl ⟨by rfl, ?_⟩) (by assumption) ?_
          rotate_left
          · intro wS hSw
            go_simp
            all_goals first | with_reducible rfl | rw [if_neg (by omega)]
          simp only [Act.put, List.setIfInBounds_toArray, List.set]
          refine wpAnyH_take (i := 49) (oi := _) (v := ?_) (by (simp only [List.getElem?_toArray]; rfl)) (by kernel_rfl) (by kernel_rfl) (by kernel_rfl) (by exact fun _ _ _ h => h) (Or.inl ⟨by rfl, ?_⟩) (by assumption) ?_
          rotate_left
          · intro wS hSw
            go_simp
            all_goals first | with_reducible rfl | rw [if_neg (by omega)]
          simp only [Act.put, List.setIfInBounds_toArray, List.set]
          refine wpAnyH_take (i := 50) (oi := _) (v := ?_) (by (simp only [List.getElem?_toArray]; rfl)) (by kernel_rfl) (by kernel_rfl) (by kernel_rfl) (by exact fun _ _ _ h => h) (Or.inl ⟨by rfl, ?_⟩) (by assumption) ?_
          rotate_left
          · intro wS hSw
            go_simp
            all_goals first | with_reducible rfl | rw [if_neg (by omega)]
          simp only [Act.put, List.setIfInBounds_toArray, List.set]
          refine wpAnyH_take (i := 51) (oi := _) (v := ?_) (by (simp only [List.getElem?_toArray]; rfl)) (by kernel_rfl) (by kernel_rfl) (by kernel_rfl) (by exact fun _ _ _ h => h) (Or.inl ⟨by rfl, ?_⟩) (by assumption) ?_
          rotate_left
          · intro wS hSw
            go_simp
            all_goals first | with_reducible rfl | rw [if_neg (by omega)]
          simp only [Act.put, List.setIfInBounds_toArray, List.set]
          refine wpAnyH_take (i := 52) (oi := _) (v := ?_) (by (simp only [List.getElem?_toArray]; rfl)) (by kernel_rfl) (by kernel_rfl) (by kernel_rfl) (by exact fun _ _ _ h => h) (Or.inl ⟨by rfl, ?_⟩) (by assumption) ?_
          rotate_left
          · intro wS hSw
            go_simp
            all_goals first | with_reducible rfl | rw [if_neg (by omega)]
          simp only [Act.put, List.setIfInBounds_toArray, List.set]
          refine wpAnyH_take (i := 53) (oi := _) (v := ?_) (by (simp only [List.getElem?_toArray]; rfl)) (by kernel_rfl) (by kernel_rfl) (by kernel_rfl) (by exact fun _ _ _ h => h) (Or.inl ⟨by rfl, ?_⟩) (by assumption) ?_
          rotate_left
          · intro wS hSw
            go_simp
            all_goals first | with_reducible rfl | rw [if_neg (by omega)]
          simp only [Act.put, List.setIfInBounds_toArray, List.set]
          refine wpAnyH_done (by kernel_rfl) ?_ _
          have K9 := Lib.hid (below_next K1.out (below_next W9.out (below_next T9.out t4.out.2)))
          clear t0 t1 t2 t3 t4 cA lA cX lX cP lP cQ lQ hHeld
          go_wp2_with fail
          go_ret
          exact ⟨rfl, K9.out⟩
        · have hwi : (0 : Int) < ((n1 : Nat) : Int) := by omega
          have hwn : 0 < n1 := by omega
          have hwd : decide (0 < n1) = true := by simpa using hwn
          obtain ⟨k0, hk0⟩ : ∃ k0 : Nat, k0 = 0 := ⟨_, rfl⟩
          have hwz : k0 < z.wt.length := by rw [HN1.out]; omega
          obtain ⟨bb, oo, rfl, hl0, hc0⟩ := hr1 k0 hwz
          have HF := Lib.hid (fun h => kept_first (b := true) HZZ.out HPP.out hk0 hwz h)
          have q0 := hc0 0 (by decide)
          have q1 := hc0 1 (by decide)
          have q2 := hc0 2 (by decide)
          have q3 := hc0 3 (by decide)
          have q4 := hc0 4 (by decide)
          obtain ⟨q, hq⟩ : ∃ q, q = z.wt[k0]'hwz := ⟨_, rfl⟩
          rw [← hq] at q0 q1 q2 q3 q4 HF
          clear hq hc0
          clear hwz
          rw [hk0, Nat.zero_mul, Nat.add_zero] at q0 q1 q2 q3 q4
          replace q0 : w9.cell? ⟨bb, oo, none⟩ = some (.int .i64 q.c) := q0
          replace q1 : w9.cell? ⟨bb, oo + 1, none⟩ = some (.int .i64 q.n) := q1
          replace q2 : w9.cell? ⟨bb, oo + 2, none⟩ = some (.int .i64 q.o) := q2
          replace q3 : w9.cell? ⟨bb, oo + 3, none⟩ = some (.int .i64 q.x) := q3
          replace q4 : w9.cell? ⟨bb, oo + 4, none⟩ = some (.int .i64 q.y) := q4
          clear hk0
          cases hfb : eqR q.c q.n q.o q.x q.y r.c r.n r.o r.x r.y with
          | false =>
            go_wp2_with fail
            refine wp_region_held_drew (S := fun w' => ((∀ b o, b < w9.heap.size → (w').cell? ⟨b, o, none⟩ = (w9).cell? ⟨b, o, none⟩) ∧ Below (w9.heap.size) (w9) (w'))) (by kernel_rfl) (KeptB.drew (KeptB.refl _ _)) (fun hHeld => ?_)
            refine wpAnyH_take (i := 0) (oi := _) (v := ?_) (by (simp only [List.getElem?_toArray]; rfl)) (by kernel_rfl) (by kernel_rfl) (by kernel_rfl) (by exact fun _ _ _ h => h) (Or.inl ⟨by rfl, ?_⟩) (by assumption) ?_
            rotate_left
            · intro wS hSw
              go_simp
              all_goals first | with_reducible rfl | rw [if_neg (by omega)]
            simp only [Act.put, List.setIfInBounds_toArray, List.set]
            refine wpAnyH_take (i := 1) (oi := _) (v := ?_) (by (simp only [List.getElem?_toArray]; rfl)) (by kernel_rfl) (by kernel_rfl) (by kernel_rfl) (by exact fun _ _ _ h => h) (Or.inl ⟨by rfl, ?_⟩) (by assumption) ?_
            rotate_left
            · intro wS hSw
              go_simp
              all_goals first | with_reducible rfl | rw [if_neg (by omega)]
            simp only [Act.put, List.setIfInBounds_toArray, List.set]
            refine wpAnyH_take (i := 2) (oi := _) (v := ?_) (by (simp only [List.getElem?_toArray]; rfl)) (by kernel_rfl) (by kernel_rfl) (by kernel_rfl) (by exact fun _ _ _ h => h) (Or.inl ⟨by rfl, ?_⟩) (by assumption) ?_
            rotate_left
            · intro wS hSw
              go_simp
              all_goals first | with_reducible rfl | rw [if_neg (by omega)]
            simp only [Act.put, List.setIfInBounds_toArray, List.set]
            refine wpAnyH_take (i := 3) (oi := _) (v := ?_) (by (simp only [List.getElem?_toArray]; rfl)) (by kernel_rfl) (by kernel_rfl) (by kernel_rfl) (by exact fun _ _ _ h => h) (Or.inl ⟨by rfl, ?_⟩) (by assumption) ?_
            rotate_left
            · intro wS hSw
              go_simp
              all_goals first | with_reducible rfl | rw [if_neg (by omega)]
            simp only [Act.put, List.setIfInBounds_toArray, List.set]
            refine wpAnyH_take (i := 4) (oi := _) (v := ?_) (by (simp only [List.getElem?_toArray]; rfl)) (by kernel_rfl) (by kernel_rfl) (by kernel_rfl) (by exact fun _ _ _ h => h) (Or.inl ⟨by rfl, ?_⟩) (by assumption) ?_
            rotate_left
            · intro wS hSw
              go_simp
              all_goals first | with_reducible rfl | rw [if_neg (by omega)]
            simp only [Act.put, List.setIfInBounds_toArray, List.set]
            refine wpAnyH_take (i := 5) (oi := _) (v := ?_) (by (simp only [List.getElem?_toArray]; rfl)) (by kernel_rfl) (by kernel_rfl) (by kernel_rfl) (by exact fun _ _ _ h => h) (Or.inl ⟨by rfl, ?_⟩) (by assumption) ?_
            rotate_left
            · intro wS hSw
              go_simp
              all_goals first | with_reducible rfl | rw [if_neg (by omega)]
            simp only [Act.put, List.setIfInBounds_toArray, List.set]
            refine wpAnyH_take (i := 6) (oi := _) (v := ?_) (by (simp only [List.getElem?_toArray]; rfl)) (by kernel_rfl) (by kernel_rfl) (by kernel_rfl) (by exact fun _ _ _ h => h) (Or.inl ⟨by rfl, ?_⟩) (by assumption) ?_
            rotate_left
            · intro wS hSw
              go_simp
              all_goals first | with_reducible rfl | rw [if_neg (by omega)]
            simp only [Act.put, List.setIfInBounds_toArray, List.set]
            refine wpAnyH_take (i := 7) (oi := _) (v := ?_) (by (simp only [List.getElem?_toArray]; rfl)) (by kernel_rfl) (by kernel_rfl) (by kernel_rfl) (by exact fun _ _ _ h => h) (Or.inl ⟨by rfl, ?_⟩) (by assumption) ?_
            rotate_left
            · intro wS hSw
              go_simp
              all_goals first | with_reducible rfl | rw [if_neg (by omega)]
            simp only [Act.put, List.setIfInBounds_toArray, List.set]
            refine wpAnyH_take (i := 8) (oi := _) (v := ?_) (by (simp only [List.getElem?_toArray]; rfl)) (by kernel_rfl) (by kernel_rfl) (by kernel_rfl) (by exact fun _ _ _ h => h) (Or.inl ⟨by rfl, ?_⟩) (by assumption) ?_
            rotate_left
            · intro wS hSw
              go_simp
              all_goals first | with_reducible rfl | rw [if_neg (by omega)]
            simp only [Act.put, List.setIfInBounds_toArray, List.set]
            refine wpAnyH_take (i := 9) (oi := _) (v := ?_) (by (simp only [List.getElem?_toArray]; rfl)) (by kernel_rfl) (by kernel_rfl) (by kernel_rfl) (by exact fun _ _ _ h => h) (Or.inl ⟨by rfl, ?_⟩) (by assumption) ?_
            rotate_left
            · intro wS hSw
              go_simp
              all_goals first | with_reducible rfl | rw [if_neg (by omega)]
            simp only [Act.put, List.setIfInBounds_toArray, List.set]
            refine wpAnyH_take (i := 10) (oi := _) (v := ?_) (by (simp only [List.getElem?_toArray]; rfl)) (by kernel_rfl) (by kernel_rfl) (by kernel_rfl) (by exact fun _ _ _ h => h) (Or.inl ⟨by rfl, ?_⟩) (by assumption) ?_
            rotate_left
            · intro wS hSw
              go_simp
              all_goals first | with_reducible rfl | rw [if_neg (by omega)]
            simp only [Act.put, List.setIfInBounds_toArray, List.set]
            refine wpAnyH_take (i := 11) (oi := _) (v := ?_) (by (simp only [List.getElem?_toArray]; rfl)) (by kernel_rfl) (by kernel_rfl) (by kernel_rfl) (by exact fun _ _ _ h => h) (Or.inl ⟨by rfl, ?_⟩) (by assumption) ?_
            rotate_left
            · intro wS hSw
              go_simp
              all_goals first | with_reducible rfl | rw [if_neg (by omega)]
            simp only [Act.put, List.setIfInBounds_toArray, List.set]
            refine wpAnyH_take (i := 12) (oi := _) (v := ?_) (by (simp only [List.getElem?_toArray]; rfl)) (by kernel_rfl) (by kernel_rfl) (by kernel_rfl) (by exact fun _ _ _ h => h) (Or.inl ⟨by rfl, ?_⟩) (by assumption) ?_
            rotate_left
            · intro wS hSw
              go_simp
              all_goals first | with_reducible rfl | rw [if_neg (by omega)]
            simp only [Act.put, List.setIfInBounds_toArray, List.set]
            refine wpAnyH_done (by kernel_rfl) ?_ _
            have t9 := Lib.hid (KeptB.drew (KeptB.refl w9.heap.size w9))
            clear hHeld
            clear q0 q1 q2 q3 q4 hfb hl0
            have A10 := Lib.hid (carryN t9.out.2 A9.out)
            have Q10 := Lib.hid (carryN t9.out.2 Q9.out)
            have X10 := Lib.hid (carryN t9.out.2 X9.out)
            have PB10 := Lib.hid (carryN t9.out.2 PB.out)
            have O10 := Lib.hid (O9.out.below t9.out.2)
            have hk9 := t9.out.2
            obtain ⟨w10, hw10⟩ : ∃ V, V = w9.drew := ⟨_, rfl⟩
            rw [← hw10] at A10 Q10 X10 PB10 O10 hk9 ⊢
            have T9 := Lib.hid hk9
            have f0 := HCF.out 0 (by decide)
            have f1 := HCF.out 1 (by decide)
            have f2 := HCF.out 2 (by decide)
            have f3 := HCF.out 3 (by decide)
            have f4 := HCF.out 4 (by decide)
            replace f0 : w10.cell? ⟨F, oF + D * 5, none⟩ = some (.int .i64 r.c) := by rw [hw10]; exact f0
            replace f1 : w10.cell? ⟨F, oF + D * 5 + 1, none⟩ = some (.int .i64 r.n) := by rw [hw10]; exact f1
            replace f2 : w10.cell? ⟨F, oF + D * 5 + 2, none⟩ = some (.int .i64 r.o) := by rw [hw10]; exact f2
            replace f3 : w10.cell? ⟨F, oF + D * 5 + 3, none⟩ = some (.int .i64 r.x) := by rw [hw10]; exact f3
            replace f4 : w10.cell? ⟨F, oF + D * 5 + 4, none⟩ = some (.int .i64 r.y) := by rw [hw10]; exact f4
            have hFl : F < w10.heap.size := by
              obtain ⟨-, -, -, hh⟩ := (P09.out.below hk9).bounds
              obtain ⟨F', o', hq, hl, -⟩ := hh D (by rw [HD.out]; omega)
              injection hq with hq
              injection hq with hq
              rw [hq]; exact hl
            clear hw10 t9 hk9 cX lX cA lA cQ lQ cP lP A9 Q9 X9 PB O9 hr1
            have cX := cell_of_block X10.out
            have lX := lt_of_block X10.out
            have cA := cell_of_block A10.out
            have lA := lt_of_block A10.out
            have cQ := cell_of_block Q10.out
            have lQ := lt_of_block Q10.out
            have cP := cell_of_block PB10.out
            have lP := lt_of_block PB10.out
            go_wp2_with fail
            refine wp_region_held_drew (S := fun w' => ((∀ b o, b < w10.heap.size → (w').cell? ⟨b, o, none⟩ = (w10).cell? ⟨b, o, none⟩) ∧ Below (w10.heap.size) (w10) (w'))) (by kernel_rfl) (KeptB.drew (KeptB.refl _ _)) (fun hHeld => ?_)
            refine wpAnyH_take (i := 0) (oi := _) (v := ?_) (by (simp only [List.getElem?_toArray]; rfl)) (by kernel_rfl) (by kernel_rfl) (by kernel_rfl) (by exact fun _ _ _ h => h) (Or.inl ⟨by rfl, ?_⟩) (by assumption) ?_
            rotate_left
            · intro wS hSw
              go_simp
              all_goals first | with_reducible rfl | rw [if_neg (by omega)]
            simp only [Act.put, List.setIfInBounds_toArray, List.set]
            have t0 := Lib.hid (KeptB.drew (KeptB.refl w10.heap.size w10))
            clear hHeld
            refine wpAnyH_ready (rs := [1]) (by kernel_rfl) (by simp) ?_
            refine AllReadyH.cons (o := _) (by (simp only [List.getElem?_toArray]; rfl)) (fun K hK => ?_) AllReadyH.nil
            go_simp
            refine (CXO.out _ (below_next T9.out t0.out.2)).mono ?_
            rintro e u1 ⟨rfl, kk⟩
            have t1 := Lib.hid (KeptB.next (Nat.le_refl _) t0.out kk)
            clear kk
            refine hK.out _ _ t1.out (fun hHeld => ?_)
            clear hK K
            try simp only [Act.put, List.setIfInBounds_toArray, List.set]
            refine wpAnyH_take (i := 2) (oi := _) (v := ?_) (by (simp only [List.getElem?_toArray]; rfl)) (by kernel_rfl) (by kernel_rfl) (by kernel_rfl) (by exact fun _ _ _ h => h) (Or.inl ⟨by rfl, ?_⟩) (by assumption) ?_
            rotate_left
            · intro wS hSw
              go_simp
              all_goals first | with_reducible rfl | rw [if_neg (by omega)]
            simp only [Act.put, List.setIfInBounds_toArray, List.set]
            refine wpAnyH_take (i := 3) (oi := _) (v := ?_) (by (simp only [List.getElem?_toArray]; rfl)) (by kernel_rfl) (by kernel_rfl) (by kernel_rfl) (by exact fun _ _ _ h => h) (Or.inl ⟨by rfl, ?_⟩) (by assumption) ?_
            rotate_left
            · intro wS hSw
              go_simp
              all_goals first | with_reducible rfl | rw [if_neg (by omega)]
            simp only [Act.put, List.setIfInBounds_toArray, List.set]
            refine wpAnyH_take (i := 5) (oi := _) (v := ?_) (by (simp only [List.getElem?_toArray]; rfl)) (by kernel_rfl) (by kernel_rfl) (by kernel_rfl) (by exact fun _ _ _ h => h) (Or.inl ⟨by rfl, ?_⟩) (by assumption) ?_
            rotate_left
            · intro wS hSw
              go_simp
              all_goals first | with_reducible rfl | rw [if_neg (by omega)]
            simp only [Act.put, List.setIfInBounds_toArray, List.set]
            clear hHeld
            refine wpAnyH_ready (rs := [4]) (by kernel_rfl) (by simp) ?_
            refine AllReadyH.cons (o := _) (by (simp only [List.getElem?_toArray]; rfl)) (fun K hK => ?_) AllReadyH.nil
            go_simp
            refine (CXS.out _ (below_next T9.out t1.out.2)).mono ?_
            rintro e u2 ⟨v1, rfl, ov1, kk⟩
            obtain ⟨p0, q0, p1, q1, p2, q2, rfl, o1⟩ := ov1.rows
            have t2 := Lib.hid (KeptB.next (Nat.le_refl _) t1.out kk)
            have Q1 := Lib.hid o1
            clear kk ov1 o1
            refine hK.out _ _ t2.out (fun hHeld => ?_)
            clear hK K
            try simp only [Act.put, List.setIfInBounds_toArray, List.set]
            clear hHeld
            refine wpAnyH_ready (rs := [6]) (by kernel_rfl) (by simp) ?_
            refine AllReadyH.cons (o := _) (by (simp only [List.getElem?_toArray]; rfl)) (fun K hK => ?_) AllReadyH.nil
            go_simp
            refine (wpGame_c y' p0 p1 p2 g0 g1 g2 _ _ _ q0 q1 q2 _ _ _ _ (Q1.out.e.sl five_len) (Q1.out.f.sl int_len) (Q1.out.l.sl int_len) ((O10.out.below t2.out.2).e.sl five_len) ((O10.out.below t2.out.2).f.sl int_len) ((O10.out.below t2.out.2).l.sl int_len)).mono ?_
            rintro e u3 ⟨rfl, kk⟩
            have t3 := Lib.hid (KeptB.next (Nat.le_refl _) t2.out kk)
            clear kk Q1
            refine hK.out _ _ t3.out (fun hHeld => ?_)
            clear hK K
            try simp only [Act.put, List.setIfInBounds_toArray, List.set]
            refine wpAnyH_take (i := 7) (oi := _) (v := ?_) (by (simp only [List.getElem?_toArray]; rfl)) (by kernel_rfl) (by kernel_rfl) (by kernel_rfl) (by exact fun _ _ _ h => h) (Or.inl ⟨by rfl, ?_⟩) (by assumption) ?_
            rotate_left
            · intro wS hSw
              go_simp
              all_goals first | with_reducible rfl | rw [if_neg (by omega)]
            simp only [Act.put, List.setIfInBounds_toArray, List.set]
            refine wpAnyH_take (i := 8) (oi := _) (v := ?_) (by (simp only [List.getElem?_toArray]; rfl)) (by kernel_rfl) (by kernel_rfl) (by kernel_rfl) (by exact fun _ _ _ h => h) (Or.inl ⟨by rfl, ?_⟩) (by assumption) ?_
            rotate_left
            · intro wS hSw
              go_simp
              all_goals first | with_reducible rfl | rw [if_neg (by omega)]
            simp only [Act.put, List.setIfInBounds_toArray, List.set]
            refine wpAnyH_take (i := 9) (oi := _) (v := ?_) (by (simp only [List.getElem?_toArray]; rfl)) (by kernel_rfl) (by kernel_rfl) (by kernel_rfl) (by exact fun _ _ _ h => h) (Or.inl ⟨by rfl, ?_⟩) (by assumption) ?_
            rotate_left
            · intro wS hSw
              go_simp
              all_goals first | with_reducible rfl | rw [if_neg (by omega)]
            simp only [Act.put, List.setIfInBounds_toArray, List.set]
            refine wpAnyH_take (i := 10) (oi := _) (v := ?_) (by (simp only [List.getElem?_toArray]; rfl)) (by kernel_rfl) (by kernel_rfl) (by kernel_rfl) (by exact fun _ _ _ h => h) (Or.inl ⟨by rfl, ?_⟩) (by assumption) ?_
            rotate_left
            · intro wS hSw
              go_simp
              all_goals first | with_reducible rfl | rw [if_neg (by omega)]
            simp only [Act.put, List.setIfInBounds_toArray, List.set]
            refine wpAnyH_take (i := 11) (oi := _) (v := ?_) (by (simp only [List.getElem?_toArray]; rfl)) (by kernel_rfl) (by kernel_rfl) (by kernel_rfl) (by exact fun _ _ _ h => h) (Or.inl ⟨by rfl, ?_⟩) (by assumption) ?_
            rotate_left
            · intro wS hSw
              go_simp
              all_goals first | with_reducible rfl | rw [if_neg (by omega)]
            simp only [Act.put, List.setIfInBounds_toArray, List.set]
            refine wpAnyH_take (i := 12) (oi := _) (v := ?_) (by (simp only [List.getElem?_toArray]; rfl)) (by kernel_rfl) (by kernel_rfl) (by kernel_rfl) (by exact fun _ _ _ h => h) (Or.inl ⟨by rfl, ?_⟩) (by assumption) ?_
            rotate_left
            · intro wS hSw
              go_simp
              all_goals first | with_reducible rfl | rw [if_neg (by omega)]
            simp only [Act.put, List.setIfInBounds_toArray, List.set]
            refine wpAnyH_take (i := 13) (oi := _) (v := ?_) (by (simp only [List.getElem?_toArray]; rfl)) (by kernel_rfl) (by kernel_rfl) (by kernel_rfl) (by exact fun _ _ _ h => h) (Or.inl ⟨by rfl, ?_⟩) (by assumption) ?_
            rotate_left
            · intro wS hSw
              go_simp
              all_goals first | with_reducible rfl | rw [if_neg (by omega)]
            simp only [Act.put, List.setIfInBounds_toArray, List.set]
            refine wpAnyH_take (i := 14) (oi := _) (v := ?_) (by (simp only [List.getElem?_toArray]; rfl)) (by kernel_rfl) (by kernel_rfl) (by kernel_rfl) (by exact fun _ _ _ h => h) (Or.inl ⟨by rfl, ?_⟩) (by assumption) ?_
            rotate_left
            · intro wS hSw
              go_simp
              all_goals first | with_reducible rfl | rw [if_neg (by omega)]
            simp only [Act.put, List.setIfInBounds_toArray, List.set]
            refine wpAnyH_take (i := 15) (oi := _) (v := ?_) (by (simp only [List.getElem?_toArray]; rfl)) (by kernel_rfl) (by kernel_rfl) (by kernel_rfl) (by exact fun _ _ _ h => h) (Or.inl ⟨by rfl, ?_⟩) (by assumption) ?_
            rotate_left
            · intro wS hSw
              go_simp
              all_goals first | with_reducible rfl | rw [if_neg (by omega)]
            simp only [Act.put, List.setIfInBounds_toArray, List.set]
            clear hHeld
            refine wpAnyH_ready (rs := [16]) (by kernel_rfl) (by simp) ?_
            refine AllReadyH.cons (o := _) (by (simp only [List.getElem?_toArray]; rfl)) (fun K hK => ?_) AllReadyH.nil
            go_simp
            refine (CR.out _ (below_next T9.out t3.out.2)).mono ?_
            rintro e u4 ⟨rfl, kk⟩
            have t4 := Lib.hid (KeptB.next (Nat.le_refl _) t3.out kk)
            clear kk
            refine hK.out _ _ t4.out (fun hHeld => ?_)
            clear hK K
            try simp only [Act.put, List.setIfInBounds_toArray, List.set]
            refine wpAnyH_take (i := 17) (oi := _) (v := ?_) (by (simp only [List.getElem?_toArray]; rfl)) (by kernel_rfl) (by kernel_rfl) (by kernel_rfl) (by exact fun _ _ _ h => h) (Or.inl ⟨by rfl, ?_⟩) (by assumption) ?_
            rotate_left
            · intro wS hSw
              go_simp
              all_goals first | with_reducible rfl | rw [if_neg (by omega)]
            simp only [Act.put, List.setIfInBounds_toArray, List.set]
            refine wpAnyH_take (i := 18) (oi := _) (v := ?_) (by (simp only [List.getElem?_toArray]; rfl)) (by kernel_rfl) (by kernel_rfl) (by kernel_rfl) (by exact fun _ _ _ h => h) (Or.inl ⟨by rfl, ?_⟩) (by assumption) ?_
            rotate_left
            · intro wS hSw
              go_simp
              all_goals first | with_reducible rfl | rw [if_neg (by omega)]
            simp only [Act.put, List.setIfInBounds_toArray, List.set]
            refine wpAnyH_take (i := 19) (oi := _) (v := ?_) (by (simp only [List.getElem?_toArray]; rfl)) (by kernel_rfl) (by kernel_rfl) (by kernel_rfl) (by exact fun _ _ _ h => h) (Or.inl ⟨by rfl, ?_⟩) (by assumption) ?_
            rotate_left
            · intro wS hSw
              go_simp
              all_goals first | with_reducible rfl | rw [if_neg (by omega)]
            simp only [Act.put, List.setIfInBounds_toArray, List.set]
            refine wpAnyH_take (i := 20) (oi := _) (v := ?_) (by (simp only [List.getElem?_toArray]; rfl)) (by kernel_rfl) (by kernel_rfl) (by kernel_rfl) (by exact fun _ _ _ h => h) (Or.inl ⟨by rfl, ?_⟩) (by assumption) ?_
            rotate_left
            · intro wS hSw
              go_simp
              all_goals first | with_reducible rfl | rw [if_neg (by omega)]
            simp only [Act.put, List.setIfInBounds_toArray, List.set]
            refine wpAnyH_take (i := 21) (oi := _) (v := ?_) (by (simp only [List.getElem?_toArray]; rfl)) (by kernel_rfl) (by kernel_rfl) (by kernel_rfl) (by exact fun _ _ _ h => h) (Or.inl ⟨by rfl, ?_⟩) (by assumption) ?_
            rotate_left
            · intro wS hSw
              go_simp
              all_goals first | with_reducible rfl | rw [if_neg (by omega)]
            simp only [Act.put, List.setIfInBounds_toArray, List.set]
            refine wpAnyH_take (i := 22) (oi := _) (v := ?_) (by (simp only [List.getElem?_toArray]; rfl)) (by kernel_rfl) (by kernel_rfl) (by kernel_rfl) (by exact fun _ _ _ h => h) (Or.inl ⟨by rfl, ?_⟩) (by assumption) ?_
            rotate_left
            · intro wS hSw
              go_simp
              all_goals first | with_reducible rfl | rw [if_neg (by omega)]
            simp only [Act.put, List.setIfInBounds_toArray, List.set]
            refine wpAnyH_take (i := 23) (oi := _) (v := ?_) (by (simp only [List.getElem?_toArray]; rfl)) (by kernel_rfl) (by kernel_rfl) (by kernel_rfl) (by exact fun _ _ _ h => h) (Or.inl ⟨by rfl, ?_⟩) (by assumption) ?_
            rotate_left
            · intro wS hSw
              go_simp
              all_goals first | with_reducible rfl | rw [if_neg (by omega)]
            simp only [Act.put, List.setIfInBounds_toArray, List.set]
            refine wpAnyH_take (i := 24) (oi := _) (v := ?_) (by (simp only [List.getElem?_toArray]; rfl)) (by kernel_rfl) (by kernel_rfl) (by kernel_rfl) (by exact fun _ _ _ h => h) (Or.inl ⟨by rfl, ?_⟩) (by assumption) ?_
            rotate_left
            · intro wS hSw
              go_simp
              all_goals first | with_reducible rfl | rw [if_neg (by omega)]
            simp only [Act.put, List.setIfInBounds_toArray, List.set]
            refine wpAnyH_take (i := 25) (oi := _) (v := ?_) (by (simp only [List.getElem?_toArray]; rfl)) (by kernel_rfl) (by kernel_rfl) (by kernel_rfl) (by exact fun _ _ _ h => h) (Or.inl ⟨by rfl, ?_⟩) (by assumption) ?_
            rotate_left
            · intro wS hSw
              go_simp
              all_goals first | with_reducible rfl | rw [if_neg (by omega)]
            simp only [Act.put, List.setIfInBounds_toArray, List.set]
            refine wpAnyH_take (i := 26) (oi := _) (v := ?_) (by (simp only [List.getElem?_toArray]; rfl)) (by kernel_rfl) (by kernel_rfl) (by kernel_rfl) (by exact fun _ _ _ h => h) (Or.inl ⟨by rfl, ?_⟩) (by assumption) ?_
            rotate_left
            · intro wS hSw
              go_simp
              all_goals first | with_reducible rfl | rw [if_neg (by omega)]
            simp only [Act.put, List.setIfInBounds_toArray, List.set]
            refine wpAnyH_take (i := 27) (oi := _) (v := ?_) (by (simp only [List.getElem?_toArray]; rfl)) (by kernel_rfl) (by kernel_rfl) (by kernel_rfl) (by exact fun _ _ _ h => h) (Or.inl ⟨by rfl, ?_⟩) (by assumption) ?_
            rotate_left
            · intro wS hSw
              go_simp
              all_goals first | with_reducible rfl | rw [if_neg (by omega)]
            simp only [Act.put, List.setIfInBounds_toArray, List.set]
            refine wpAnyH_take (i := 28) (oi := _) (v := ?_) (by (simp only [List.getElem?_toArray]; rfl)) (by kernel_rfl) (by kernel_rfl) (by kernel_rfl) (by exact fun _ _ _ h => h) (Or.inl ⟨by rfl, ?_⟩) (by assumption) ?_
            rotate_left
            · intro wS hSw
              go_simp
              all_goals first | with_reducible rfl | rw [if_neg (by omega)]
            simp only [Act.put, List.setIfInBounds_toArray, List.set]
            refine wpAnyH_take (i := 29) (oi := _) (v := ?_) (by (simp only [List.getElem?_toArray]; rfl)) (by kernel_rfl) (by kernel_rfl) (by kernel_rfl) (by exact fun _ _ _ h => h) (Or.inl ⟨by rfl, ?_⟩) (by assumption) ?_
            rotate_left
            · intro wS hSw
              go_simp
              all_goals first | with_reducible rfl | rw [if_neg (by omega)]
            simp only [Act.put, List.setIfInBounds_toArray, List.set]
            refine wpAnyH_take (i := 30) (oi := _) (v := ?_) (by (simp only [List.getElem?_toArray]; rfl)) (by kernel_rfl) (by kernel_rfl) (by kernel_rfl) (by exact fun _ _ _ h => h) (Or.inl ⟨by rfl, ?_⟩) (by assumption) ?_
            rotate_left
            · intro wS hSw
              go_simp
              all_goals first | with_reducible rfl | rw [if_neg (by omega)]
            simp only [Act.put, List.setIfInBounds_toArray, List.set]
            refine wpAnyH_take (i := 31) (oi := _) (v := ?_) (by (simp only [List.getElem?_toArray]; rfl)) (by kernel_rfl) (by kernel_rfl) (by kernel_rfl) (by exact fun _ _ _ h => h) (Or.inl ⟨by rfl, ?_⟩) (by assumption) ?_
            rotate_left
            · intro wS hSw
              go_simp
              all_goals first | with_reducible rfl | rw [if_neg (by omega)]
            simp only [Act.put, List.setIfInBounds_toArray, List.set]
            refine wpAnyH_take (i := 32) (oi := _) (v := undef) (by (simp only [List.getElem?_toArray]; rfl)) (by kernel_rfl) (by kernel_rfl) (by kernel_rfl) (by exact fun _ _ _ h => h) (Or.inr ⟨by rfl, rfl⟩) (by assumption) ?_
            simp only [Act.put, List.setIfInBounds_toArray, List.set]
            refine wpAnyH_take (i := 33) (oi := _) (v := undef) (by (simp only [List.getElem?_toArray]; rfl)) (by kernel_rfl) (by kernel_rfl) (by kernel_rfl) (by exact fun _ _ _ h => h) (Or.inr ⟨by rfl, rfl⟩) (by assumption) ?_
            simp only [Act.put, List.setIfInBounds_toArray, List.set]
            refine wpAnyH_take (i := 34) (oi := _) (v := undef) (by (simp only [List.getElem?_toArray]; rfl)) (by kernel_rfl) (by kernel_rfl) (by kernel_rfl) (by exact fun _ _ _ h => h) (Or.inr ⟨by rfl, rfl⟩) (by assumption) ?_
            simp only [Act.put, List.setIfInBounds_toArray, List.set]
            refine wpAnyH_take (i := 35) (oi := _) (v := undef) (by (simp only [List.getElem?_toArray]; rfl)) (by kernel_rfl) (by kernel_rfl) (by kernel_rfl) (by exact fun _ _ _ h => h) (Or.inr ⟨by rfl, rfl⟩) (by assumption) ?_
            simp only [Act.put, List.setIfInBounds_toArray, List.set]
            refine wpAnyH_take (i := 36) (oi := _) (v := undef) (by (simp only [List.getElem?_toArray]; rfl)) (by kernel_rfl) (by kernel_rfl) (by kernel_rfl) (by exact fun _ _ _ h => h) (Or.inr ⟨by rfl, rfl⟩) (by assumption) ?_
            simp only [Act.put, List.setIfInBounds_toArray, List.set]
            refine wpAnyH_take (i := 37) (oi := _) (v := undef) (by (simp only [List.getElem?_toArray]; rfl)) (by kernel_rfl) (by kernel_rfl) (by kernel_rfl) (by exact fun _ _ _ h => h) (Or.inr ⟨by rfl, rfl⟩) (by assumption) ?_
            simp only [Act.put, List.setIfInBounds_toArray, List.set]
            refine wpAnyH_take (i := 38) (oi := _) (v := undef) (by (simp only [List.getElem?_toArray]; rfl)) (by kernel_rfl) (by kernel_rfl) (by kernel_rfl) (by exact fun _ _ _ h => h) (Or.inr ⟨by rfl, rfl⟩) (by assumption) ?_
            simp only [Act.put, List.setIfInBounds_toArray, List.set]
            refine wpAnyH_take (i := 39) (oi := _) (v := undef) (by (simp only [List.getElem?_toArray]; rfl)) (by kernel_rfl) (by kernel_rfl) (by kernel_rfl) (by exact fun _ _ _ h => h) (Or.inr ⟨by rfl, rfl⟩) (by assumption) ?_
            simp only [Act.put, List.setIfInBounds_toArray, List.set]
            refine wpAnyH_take (i := 40) (oi := _) (v := undef) (by (simp only [List.getElem?_toArray]; rfl)) (by kernel_rfl) (by kernel_rfl) (by kernel_rfl) (by exact fun _ _ _ h => h) (Or.inr ⟨by rfl, rfl⟩) (by assumption) ?_
            simp only [Act.put, List.setIfInBounds_toArray, List.set]
            refine wpAnyH_take (i := 41) (oi := _) (v := undef) (by (simp only [List.getElem?_toArray]; rfl)) (by kernel_rfl) (by kernel_rfl) (by kernel_rfl) (by exact fun _ _ _ h => h) (Or.inr ⟨by rfl, rfl⟩) (by assumption) ?_
            simp only [Act.put, List.setIfInBounds_toArray, List.set]
            refine wpAnyH_take (i := 42) (oi := _) (v := undef) (by (simp only [List.getElem?_toArray]; rfl)) (by kernel_rfl) (by kernel_rfl) (by kernel_rfl) (by exact fun _ _ _ h => h) (Or.inr ⟨by rfl, rfl⟩) (by assumption) ?_
            simp only [Act.put, List.setIfInBounds_toArray, List.set]
            refine wpAnyH_take (i := 43) (oi := _) (v := undef) (by (simp only [List.getElem?_toArray]; rfl)) (by kernel_rfl) (by kernel_rfl) (by kernel_rfl) (by exact fun _ _ _ h => h) (Or.inr ⟨by rfl, rfl⟩) (by assumption) ?_
            simp only [Act.put, List.setIfInBounds_toArray, List.set]
            refine wpAnyH_take (i := 44) (oi := _) (v := ?_) (by (simp only [List.getElem?_toArray]; rfl)) (by kernel_rfl) (by kernel_rfl) (by kernel_rfl) (by exact fun _ _ _ h => h) (Or.inl ⟨by rfl, ?_⟩) (by assumption) ?_
            rotate_left
            · intro wS hSw
              go_simp
              all_goals first | with_reducible rfl | rw [if_neg (by omega)]
            simp only [Act.put, List.setIfInBounds_toArray, List.set]
            refine wpAnyH_take (i := 45) (oi := _) (v := ?_) (by (simp only [List.getElem?_toArray]; rfl)) (by kernel_rfl) (by kernel_rfl) (by kernel_rfl) (by exact fun _ _ _ h => h) (Or.inl ⟨by rfl, ?_⟩) (by assumption) ?_
            rotate_left
            · intro wS hSw
              go_simp
              all_goals first | with_reducible rfl | rw [if_neg (by omega)]
            simp only [Act.put, List.setIfInBounds_toArray, List.set]
            refine wpAnyH_take (i := 46) (oi := _) (v := ?_) (by (simp only [List.getElem?_toArray]; rfl)) (by kernel_rfl) (by kernel_rfl) (by kernel_rfl) (by exact fun _ _ _ h => h) (Or.inl ⟨by rfl, ?_⟩) (by assumption) ?_
            rotate_left
            · intro wS hSw
              go_simp
              all_goals first | with_reducible rfl | rw [if_neg (by omega)]
            simp only [Act.put, List.setIfInBounds_toArray, List.set]
            refine wpAnyH_take (i := 47) (oi := _) (v := ?_) (by (simp only [List.getElem?_toArray]; rfl)) (by kernel_rfl) (by kernel_rfl) (by kernel_rfl) (by exact fun _ _ _ h => h) (Or.inl ⟨by rfl, ?_⟩) (by assumption) ?_
            rotate_left
            · intro wS hSw
              go_simp
              all_goals first | with_reducible rfl | rw [if_neg (by omega)]
            simp only [Act.put, List.setIfInBounds_toArray, List.set]
            refine wpAnyH_take (i := 48) (oi := _) (v := ?_) (by (simp only [List.getElem?_toArray]; rfl)) (by kernel_rfl) (by kernel_rfl) (by kernel_rfl) (by exact fun _ _ _ h => h) (Or.inl ⟨by rfl, ?_⟩) (by assumption) ?_
            rotate_left
            · intro wS hSw
              go_simp
              all_goals first | with_reducible rfl | rw [if_neg (by omega)]
            simp only [Act.put, List.setIfInBounds_toArray, List.set]
            refine wpAnyH_take (i := 49) (oi := _) (v := ?_) (by (simp only [List.getElem?_toArray]; rfl)) (by kernel_rfl) (by kernel_rfl) (by kernel_rfl) (by exact fun _ _ _ h => h) (Or.inl ⟨by rfl, ?_⟩) (by assumption) ?_
            rotate_left
            · intro wS hSw
              go_simp
              all_goals first | with_reducible rfl | rw [if_neg (by omega)]
            simp only [Act.put, List.setIfInBounds_toArray, List.set]
            refine wpAnyH_take (i := 50) (oi := _) (v := ?_) (by (simp only [List.getElem?_toArray]; rfl)) (by kernel_rfl) (by kernel_rfl) (by kernel_rfl) (by exact fun _ _ _ h => h) (Or.inl ⟨by rfl, ?_⟩) (by assumption) ?_
            rotate_left
            · intro wS hSw
              go_simp
              all_goals first | with_reducible rfl | rw [if_neg (by omega)]
            simp only [Act.put, List.setIfInBounds_toArray, List.set]
            refine wpAnyH_take (i := 51) (oi := _) (v := ?_) (by (simp only [List.getElem?_toArray]; rfl)) (by kernel_rfl) (by kernel_rfl) (by kernel_rfl) (by exact fun _ _ _ h => h) (Or.inl ⟨by rfl, ?_⟩) (by assumption) ?_
            rotate_left
            · intro wS hSw
              go_simp
              all_goals first | with_reducible rfl | rw [if_neg (by omega)]
            simp only [Act.put, List.setIfInBounds_toArray, List.set]
            refine wpAnyH_take (i := 52) (oi := _) (v := ?_) (by (simp only [List.getElem?_toArray]; rfl)) (by kernel_rfl) (by kernel_rfl) (by kernel_rfl) (by exact fun _ _ _ h => h) (Or.inl ⟨by rfl, ?_⟩) (by assumption) ?_
            rotate_left
            · intro wS hSw
              go_simp
              all_goals first | with_reducible rfl | rw [if_neg (by omega)]
            simp only [Act.put, List.setIfInBounds_toArray, List.set]
            refine wpAnyH_take (i := 53) (oi := _) (v := ?_) (by (simp only [List.getElem?_toArray]; rfl)) (by kernel_rfl) (by kernel_rfl) (by kernel_rfl) (by exact fun _ _ _ h => h) (Or.inl ⟨by rfl, ?_⟩) (by assumption) ?_
            rotate_left
            · intro wS hSw
              go_simp
              all_goals first | with_reducible rfl | rw [if_neg (by omega)]
            simp only [Act.put, List.setIfInBounds_toArray, List.set]
            refine wpAnyH_done (by kernel_rfl) ?_ _
            have K9 := Lib.hid (below_next K1.out (below_next W9.out (below_next T9.out t4.out.2)))
            clear t0 t1 t2 t3 t4 cA lA cX lX cP lP cQ lQ hHeld
            go_wp2_with fail
            go_ret
            exact ⟨rfl, K9.out⟩
          | true =>
            obtain ⟨hg2, hb2⟩ := HF.out (eqR_eq hfb)
            rw [hg2] at CXG
            rw [hb2] at CXG CXO CXS X9 hge cX ⊢
            obtain ⟨gz, hgz⟩ : ∃ gz, gz = gameA z := ⟨_, rfl⟩
            rw [← hgz] at CXG CG
            clear hgz hg2 hb2 HF
            go_wp2_with fail
            refine wp_region_held_drew (S := fun w' => ((∀ b o, b < w9.heap.size → (w').cell? ⟨b, o, none⟩ = (w9).cell? ⟨b, o, none⟩) ∧ Below (w9.heap.size) (w9) (w'))) (by kernel_rfl) (KeptB.drew (KeptB.refl _ _)) (fun hHeld => ?_)
            refine wpAnyH_take (i := 0) (oi := _) (v := ?_) (by (simp only [List.getElem?_toArray]; rfl)) (by kernel_rfl) (by kernel_rfl) (by kernel_rfl) (by exact fun _ _ _ h => h) (Or.inl ⟨by rfl, ?_⟩) (by assumption) ?_
            rotate_left
            · intro wS hSw
              go_simp
              all_goals first | with_reducible rfl | rw [if_neg (by omega)]
            simp only [Act.put, List.setIfInBounds_toArray, List.set]
            refine wpAnyH_take (i := 1) (oi := _) (v := ?_) (by (simp only [List.getElem?_toArray]; rfl)) (by kernel_rfl) (by kernel_rfl) (by kernel_rfl) (by exact fun _ _ _ h => h) (Or.inl ⟨by rfl, ?_⟩) (by assumption) ?_
            rotate_left
            · intro wS hSw
              go_simp
              all_goals first | with_reducible rfl | rw [if_neg (by omega)]
            simp only [Act.put, List.setIfInBounds_toArray, List.set]
            refine wpAnyH_take (i := 2) (oi := _) (v := ?_) (by (simp only [List.getElem?_toArray]; rfl)) (by kernel_rfl) (by kernel_rfl) (by kernel_rfl) (by exact fun _ _ _ h => h) (Or.inl ⟨by rfl, ?_⟩) (by assumption) ?_
            rotate_left
            · intro wS hSw
              go_simp
              all_goals first | with_reducible rfl | rw [if_neg (by omega)]
            simp only [Act.put, List.setIfInBounds_toArray, List.set]
            refine wpAnyH_take (i := 3) (oi := _) (v := ?_) (by (simp only [List.getElem?_toArray]; rfl)) (by kernel_rfl) (by kernel_rfl) (by kernel_rfl) (by exact fun _ _ _ h => h) (Or.inl ⟨by rfl, ?_⟩) (by assumption) ?_
            rotate_left
            · intro wS hSw
              go_simp
              all_goals first | with_reducible rfl | rw [if_neg (by omega)]
            simp only [Act.put, List.setIfInBounds_toArray, List.set]
            refine wpAnyH_take (i := 4) (oi := _) (v := ?_) (by (simp only [List.getElem?_toArray]; rfl)) (by kernel_rfl) (by kernel_rfl) (by kernel_rfl) (by exact fun _ _ _ h => h) (Or.inl ⟨by rfl, ?_⟩) (by assumption) ?_
            rotate_left
            · intro wS hSw
              go_simp
              all_goals first | with_reducible rfl | rw [if_neg (by omega)]
            simp only [Act.put, List.setIfInBounds_toArray, List.set]
            refine wpAnyH_take (i := 5) (oi := _) (v := ?_) (by (simp only [List.getElem?_toArray]; rfl)) (by kernel_rfl) (by kernel_rfl) (by kernel_rfl) (by exact fun _ _ _ h => h) (Or.inl ⟨by rfl, ?_⟩) (by assumption) ?_
            rotate_left
            · intro wS hSw
              go_simp
              all_goals first | with_reducible rfl | rw [if_neg (by omega)]
            simp only [Act.put, List.setIfInBounds_toArray, List.set]
            refine wpAnyH_take (i := 6) (oi := _) (v := ?_) (by (simp only [List.getElem?_toArray]; rfl)) (by kernel_rfl) (by kernel_rfl) (by kernel_rfl) (by exact fun _ _ _ h => h) (Or.inl ⟨by rfl, ?_⟩) (by assumption) ?_
            rotate_left
            · intro wS hSw
              go_simp
              all_goals first | with_reducible rfl | rw [if_neg (by omega)]
            simp only [Act.put, List.setIfInBounds_toArray, List.set]
            refine wpAnyH_take (i := 7) (oi := _) (v := ?_) (by (simp only [List.getElem?_toArray]; rfl)) (by kernel_rfl) (by kernel_rfl) (by kernel_rfl) (by exact fun _ _ _ h => h) (Or.inl ⟨by rfl, ?_⟩) (by assumption) ?_
            rotate_left
            · intro wS hSw
              go_simp
              all_goals first | with_reducible rfl | rw [if_neg (by omega)]
            simp only [Act.put, List.setIfInBounds_toArray, List.set]
            refine wpAnyH_take (i := 8) (oi := _) (v := ?_) (by (simp only [List.getElem?_toArray]; rfl)) (by kernel_rfl) (by kernel_rfl) (by kernel_rfl) (by exact fun _ _ _ h => h) (Or.inl ⟨by rfl, ?_⟩) (by assumption) ?_
            rotate_left
            · intro wS hSw
              go_simp
              all_goals first | with_reducible rfl | rw [if_neg (by omega)]
            simp only [Act.put, List.setIfInBounds_toArray, List.set]
            refine wpAnyH_take (i := 9) (oi := _) (v := ?_) (by (simp only [List.getElem?_toArray]; rfl)) (by kernel_rfl) (by kernel_rfl) (by kernel_rfl) (by exact fun _ _ _ h => h) (Or.inl ⟨by rfl, ?_⟩) (by assumption) ?_
            rotate_left
            · intro wS hSw
              go_simp
              all_goals first | with_reducible rfl | rw [if_neg (by omega)]
            simp only [Act.put, List.setIfInBounds_toArray, List.set]
            refine wpAnyH_take (i := 10) (oi := _) (v := ?_) (by (simp only [List.getElem?_toArray]; rfl)) (by kernel_rfl) (by kernel_rfl) (by kernel_rfl) (by exact fun _ _ _ h => h) (Or.inl ⟨by rfl, ?_⟩) (by assumption) ?_
            rotate_left
            · intro wS hSw
              go_simp
              all_goals first | with_reducible rfl | rw [if_neg (by omega)]
            simp only [Act.put, List.setIfInBounds_toArray, List.set]
            refine wpAnyH_take (i := 11) (oi := _) (v := ?_) (by (simp only [List.getElem?_toArray]; rfl)) (by kernel_rfl) (by kernel_rfl) (by kernel_rfl) (by exact fun _ _ _ h => h) (Or.inl ⟨by rfl, ?_⟩) (by assumption) ?_
            rotate_left
            · intro wS hSw
              go_simp
              all_goals first | with_reducible rfl | rw [if_neg (by omega)]
            simp only [Act.put, List.setIfInBounds_toArray, List.set]
            refine wpAnyH_take (i := 12) (oi := _) (v := ?_) (by (simp only [List.getElem?_toArray]; rfl)) (by kernel_rfl) (by kernel_rfl) (by kernel_rfl) (by exact fun _ _ _ h => h) (Or.inl ⟨by rfl, ?_⟩) (by assumption) ?_
            rotate_left
            · intro wS hSw
              go_simp
              all_goals first | with_reducible rfl | rw [if_neg (by omega)]
            simp only [Act.put, List.setIfInBounds_toArray, List.set]
            refine wpAnyH_done (by kernel_rfl) ?_ _
            have t9 := Lib.hid (KeptB.drew (KeptB.refl w9.heap.size w9))
            clear hHeld
            clear q0 q1 q2 q3 q4 hfb hl0
            have A10 := Lib.hid (carryN t9.out.2 A9.out)
            have Q10 := Lib.hid (carryN t9.out.2 Q9.out)
            have X10 := Lib.hid (carryN t9.out.2 X9.out)
            have PB10 := Lib.hid (carryN t9.out.2 PB.out)
            have O10 := Lib.hid (O9.out.below t9.out.2)
            have hk9 := t9.out.2
            obtain ⟨w10, hw10⟩ : ∃ V, V = w9.drew := ⟨_, rfl⟩
            rw [← hw10] at A10 Q10 X10 PB10 O10 hk9 ⊢
            have T9 := Lib.hid hk9
            have f0 := HCF.out 0 (by decide)
            have f1 := HCF.out 1 (by decide)
            have f2 := HCF.out 2 (by decide)
            have f3 := HCF.out 3 (by decide)
            have f4 := HCF.out 4 (by decide)
            replace f0 : w10.cell? ⟨F, oF + D * 5, none⟩ = some (.int .i64 r.c) := by rw [hw10]; exact f0
            replace f1 : w10.cell? ⟨F, oF + D * 5 + 1, none⟩ = some (.int .i64 r.n) := by rw [hw10]; exact f1
            replace f2 : w10.cell? ⟨F, oF + D * 5 + 2, none⟩ = some (.int .i64 r.o) := by rw [hw10]; exact f2
            replace f3 : w10.cell? ⟨F, oF + D * 5 + 3, none⟩ = some (.int .i64 r.x) := by rw [hw10]; exact f3
            replace f4 : w10.cell? ⟨F, oF + D * 5 + 4, none⟩ = some (.int .i64 r.y) := by rw [hw10]; exact f4
            have hFl : F < w10.heap.size := by
              obtain ⟨-, -, -, hh⟩ := (P09.out.below hk9).bounds
              obtain ⟨F', o', hq, hl, -⟩ := hh D (by rw [HD.out]; omega)
              injection hq with hq
              injection hq with hq
              rw [hq]; exact hl
            clear hw10 t9 hk9 cX lX cA lA cQ lQ cP lP A9 Q9 X9 PB O9 hr1
            have cX := cell_of_block X10.out
            have lX := lt_of_block X10.out
            have cA := cell_of_block A10.out
            have lA := lt_of_block A10.out
            have cQ := cell_of_block Q10.out
            have lQ := lt_of_block Q10.out
            have cP := cell_of_block PB10.out
            have lP := lt_of_block PB10.out
            go_wp2_with fail
            refine wp_region_held_drew (S := fun w' => ((∀ b o, b < w10.heap.size → (w').cell? ⟨b, o, none⟩ = (w10).cell? ⟨b, o, none⟩) ∧ Below (w10.heap.size) (w10) (w'))) (by kernel_rfl) (KeptB.drew (KeptB.refl _ _)) (fun hHeld => ?_)
            refine wpAnyH_take (i := 0) (oi := _) (v := ?_) (by (simp only [List.getElem?_toArray]; rfl)) (by kernel_rfl) (by kernel_rfl) (by kernel_rfl) (by exact fun _ _ _ h => h) (Or.inl ⟨by rfl, ?_⟩) (by assumption) ?_
            rotate_left
            · intro wS hSw
              go_simp
              all_goals first | with_reducible rfl | rw [if_neg (by omega)]
            simp only [Act.put, List.setIfInBounds_toArray, List.set]
            have t0 := Lib.hid (KeptB.drew (KeptB.refl w10.heap.size w10))
            clear hHeld
            refine wpAnyH_ready (rs := [1]) (by kernel_rfl) (by simp) ?_
            refine AllReadyH.cons (o := _) (by (simp only [List.getElem?_toArray]; rfl)) (fun K hK => ?_) AllReadyH.nil
            go_simp
            refine (CXO.out _ (below_next T9.out t0.out.2)).mono ?_
            rintro e u1 ⟨rfl, kk⟩
            have t1 := Lib.hid (KeptB.next (Nat.le_refl _) t0.out kk)
            clear kk
            refine hK.out _ _ t1.out (fun hHeld => ?_)
            clear hK K
            try simp only [Act.put, List.setIfInBounds_toArray, List.set]
            refine wpAnyH_take (i := 2) (oi := _) (v := ?_) (by (simp only [List.getElem?_toArray]; rfl)) (by kernel_rfl) (by kernel_rfl) (by kernel_rfl) (by exact fun _ _ _ h => h) (Or.inl ⟨by rfl, ?_⟩) (by assumption) ?_
            rotate_left
            · intro wS hSw
              go_simp
              all_goals first | with_reducible rfl | rw [if_neg (by omega)]
            simp only [Act.put, List.setIfInBounds_toArray, List.set]
            refine wpAnyH_take (i := 3) (oi := _) (v := ?_) (by (simp only [List.getElem?_toArray]; rfl)) (by kernel_rfl) (by kernel_rfl) (by kernel_rfl) (by exact fun _ _ _ h => h) (Or.inl ⟨by rfl, ?_⟩) (by assumption) ?_
            rotate_left
            · intro wS hSw
              go_simp
              all_goals first | with_reducible rfl | rw [if_neg (by omega)]
            simp only [Act.put, List.setIfInBounds_toArray, List.set]
            refine wpAnyH_take (i := 5) (oi := _) (v := ?_) (by (simp only [List.getElem?_toArray]; rfl)) (by kernel_rfl) (by kernel_rfl) (by kernel_rfl) (by exact fun _ _ _ h => h) (Or.inl ⟨by rfl, ?_⟩) (by assumption) ?_
            rotate_left
            · intro wS hSw
              go_simp
              all_goals first | with_reducible rfl | rw [if_neg (by omega)]
            simp only [Act.put, List.setIfInBounds_toArray, List.set]
            clear hHeld
            refine wpAnyH_ready (rs := [4]) (by kernel_rfl) (by simp) ?_
            refine AllReadyH.cons (o := _) (by (simp only [List.getElem?_toArray]; rfl)) (fun K hK => ?_) AllReadyH.nil
            go_simp
            refine (CXS.out _ (below_next T9.out t1.out.2)).mono ?_
            rintro e u2 ⟨v1, rfl, ov1, kk⟩
            obtain ⟨p0, q0, p1, q1, p2, q2, rfl, o1⟩ := ov1.rows
            have t2 := Lib.hid (KeptB.next (Nat.le_refl _) t1.out kk)
            have Q1 := Lib.hid o1
            clear kk ov1 o1
            refine hK.out _ _ t2.out (fun hHeld => ?_)
            clear hK K
            try simp only [Act.put, List.setIfInBounds_toArray, List.set]
            clear hHeld
            refine wpAnyH_ready (rs := [6]) (by kernel_rfl) (by simp) ?_
            refine AllReadyH.cons (o := _) (by (simp only [List.getElem?_toArray]; rfl)) (fun K hK => ?_) AllReadyH.nil
            go_simp
            refine (wpGame_c y' p0 p1 p2 g0 g1 g2 _ _ _ q0 q1 q2 _ _ _ _ (Q1.out.e.sl five_len) (Q1.out.f.sl int_len) (Q1.out.l.sl int_len) ((O10.out.below t2.out.2).e.sl five_len) ((O10.out.below t2.out.2).f.sl int_len) ((O10.out.below t2.out.2).l.sl int_len)).mono ?_
            rintro e u3 ⟨rfl, kk⟩
            have t3 := Lib.hid (KeptB.next (Nat.le_refl _) t2.out kk)
            clear kk Q1
            refine hK.out _ _ t3.out (fun hHeld => ?_)
            clear hK K
            try simp only [Act.put, List.setIfInBounds_toArray, List.set]
            refine wpAnyH_take (i := 7) (oi := _) (v := ?_) (by (simp only [List.getElem?_toArray]; rfl)) (by kernel_rfl) (by kernel_rfl) (by kernel_rfl) (by exact fun _ _ _ h => h) (Or.inl ⟨by rfl, ?_⟩) (by assumption) ?_
            rotate_left
            · intro wS hSw
              go_simp
              all_goals first | with_reducible rfl | rw [if_neg (by omega)]
            simp only [Act.put, List.setIfInBounds_toArray, List.set]
            refine wpAnyH_take (i := 8) (oi := _) (v := ?_) (by (simp only [List.getElem?_toArray]; rfl)) (by kernel_rfl) (by kernel_rfl) (by kernel_rfl) (by exact fun _ _ _ h => h) (Or.inl ⟨by rfl, ?_⟩) (by assumption) ?_
            rotate_left
            · intro wS hSw
              go_simp
              all_goals first | with_reducible rfl | rw [if_neg (by omega)]
            simp only [Act.put, List.setIfInBounds_toArray, List.set]
            refine wpAnyH_take (i := 9) (oi := _) (v := ?_) (by (simp only [List.getElem?_toArray]; rfl)) (by kernel_rfl) (by kernel_rfl) (by kernel_rfl) (by exact fun _ _ _ h => h) (Or.inl ⟨by rfl, ?_⟩) (by assumption) ?_
            rotate_left
            · intro wS hSw
              go_simp
              all_goals first | with_reducible rfl | rw [if_neg (by omega)]
            simp only [Act.put, List.setIfInBounds_toArray, List.set]
            refine wpAnyH_take (i := 10) (oi := _) (v := ?_) (by (simp only [List.getElem?_toArray]; rfl)) (by kernel_rfl) (by kernel_rfl) (by kernel_rfl) (by exact fun _ _ _ h => h) (Or.inl ⟨by rfl, ?_⟩) (by assumption) ?_
            rotate_left
            · intro wS hSw
              go_simp
              all_goals first | with_reducible rfl | rw [if_neg (by omega)]
            simp only [Act.put, List.setIfInBounds_toArray, List.set]
            refine wpAnyH_take (i := 11) (oi := _) (v := ?_) (by (simp only [List.getElem?_toArray]; rfl)) (by kernel_rfl) (by kernel_rfl) (by kernel_rfl) (by exact fun _ _ _ h => h) (Or.inl ⟨by rfl, ?_⟩) (by assumption) ?_
            rotate_left
            · intro wS hSw
              go_simp
              all_goals first | with_reducible rfl | rw [if_neg (by omega)]
            simp only [Act.put, List.setIfInBounds_toArray, List.set]
            refine wpAnyH_take (i := 12) (oi := _) (v := ?_) (by (simp only [List.getElem?_toArray]; rfl)) (by kernel_rfl) (by kernel_rfl) (by kernel_rfl) (by exact fun _ _ _ h => h) (Or.inl ⟨by rfl, ?_⟩) (by assumption) ?_
            rotate_left
            · intro wS hSw
              go_simp
              all_goals first | with_reducible rfl | rw [if_neg (by omega)]
            simp only [Act.put, List.setIfInBounds_toArray, List.set]
            refine wpAnyH_take (i := 13) (oi := _) (v := ?_) (by (simp only [List.getElem?_toArray]; rfl)) (by kernel_rfl) (by kernel_rfl) (by kernel_rfl) (by exact fun _ _ _ h => h) (Or.inl ⟨by rfl, ?_⟩) (by assumption) ?_
            rotate_left
            · intro wS hSw
              go_simp
              all_goals first | with_reducible rfl | rw [if_neg (by omega)]
            simp only [Act.put, List.setIfInBounds_toArray, List.set]
            refine wpAnyH_take (i := 14) (oi := _) (v := ?_) (by (simp only [List.getElem?_toArray]; rfl)) (by kernel_rfl) (by kernel_rfl) (by kernel_rfl) (by exact fun _ _ _ h => h) (Or.inl ⟨by rfl, ?_⟩) (by assumption) ?_
            rotate_left
            · intro wS hSw
              go_simp
              all_goals first | with_reducible rfl | rw [if_neg (by omega)]
            simp only [Act.put, List.setIfInBounds_toArray, List.set]
            refine wpAnyH_take (i := 15) (oi := _) (v := ?_) (by (simp only [List.getElem?_toArray]; rfl)) (by kernel_rfl) (by kernel_rfl) (by kernel_rfl) (by exact fun _ _ _ h => h) (Or.inl ⟨by rfl, ?_⟩) (by assumption) ?_
            rotate_left
            · intro wS hSw
              go_simp
              all_goals first | with_reducible rfl | rw [if_neg (by omega)]
            simp only [Act.put, List.setIfInBounds_toArray, List.set]
            clear hHeld
            refine wpAnyH_ready (rs := [16]) (by kernel_rfl) (by simp) ?_
            refine AllReadyH.cons (o := _) (by (simp only [List.getElem?_toArray]; rfl)) (fun K hK => ?_) AllReadyH.nil
            go_simp
            refine (CR.out _ (below_next T9.out t3.out.2)).mono ?_
            rintro e u4 ⟨rfl, kk⟩
            have t4 := Lib.hid (KeptB.next (Nat.le_refl _) t3.out kk)
            clear kk
            refine hK.out _ _ t4.out (fun hHeld => ?_)
            clear hK K
            try simp only [Act.put, List.setIfInBounds_toArray, List.set]
            refine wpAnyH_take (i := 17) (oi := _) (v := ?_) (by (simp only [List.getElem?_toArray]; rfl)) (by kernel_rfl) (by kernel_rfl) (by kernel_rfl) (by exact fun _ _ _ h => h) (Or.inl ⟨by rfl, ?_⟩) (by assumption) ?_
            rotate_left
            · intro wS hSw
              go_simp
              all_goals first | with_reducible rfl | rw [if_neg (by omega)]
            simp only [Act.put, List.setIfInBounds_toArray, List.set]
            refine wpAnyH_take (i := 18) (oi := _) (v := ?_) (by (simp only [List.getElem?_toArray]; rfl)) (by kernel_rfl) (by kernel_rfl) (by kernel_rfl) (by exact fun _ _ _ h => h) (Or.inl ⟨by rfl, ?_⟩) (by assumption) ?_
            rotate_left
            · intro wS hSw
              go_simp
              all_goals first | with_reducible rfl | rw [if_neg (by omega)]
            simp only [Act.put, List.setIfInBounds_toArray, List.set]
            refine wpAnyH_take (i := 19) (oi := _) (v := ?_) (by (simp only [List.getElem?_toArray]; rfl)) (by kernel_rfl) (by kernel_rfl) (by kernel_rfl) (by exact fun _ _ _ h => h) (Or.inl ⟨by rfl, ?_⟩) (by assumption) ?_
            rotate_left
            · intro wS hSw
              go_simp
              all_goals first | with_reducible rfl | rw [if_neg (by omega)]
            simp only [Act.put, List.setIfInBounds_toArray, List.set]
            refine wpAnyH_take (i := 20) (oi := _) (v := ?_) (by (simp only [List.getElem?_toArray]; rfl)) (by kernel_rfl) (by kernel_rfl) (by kernel_rfl) (by exact fun _ _ _ h => h) (Or.inl ⟨by rfl, ?_⟩) (by assumption) ?_
            rotate_left
            · intro wS hSw
              go_simp
              all_goals first | with_reducible rfl | rw [if_neg (by omega)]
            simp only [Act.put, List.setIfInBounds_toArray, List.set]
            refine wpAnyH_take (i := 21) (oi := _) (v := ?_) (by (simp only [List.getElem?_toArray]; rfl)) (by kernel_rfl) (by kernel_rfl) (by kernel_rfl) (by exact fun _ _ _ h => h) (Or.inl ⟨by rfl, ?_⟩) (by assumption) ?_
            rotate_left
            · intro wS hSw
              go_simp
              all_goals first | with_reducible rfl | rw [if_neg (by omega)]
            simp only [Act.put, List.setIfInBounds_toArray, List.set]
            refine wpAnyH_take (i := 22) (oi := _) (v := ?_) (by (simp only [List.getElem?_toArray]; rfl)) (by kernel_rfl) (by kernel_rfl) (by kernel_rfl) (by exact fun _ _ _ h => h) (Or.inl ⟨by rfl, ?_⟩) (by assumption) ?_
            rotate_left
            · intro wS hSw
              go_simp
              all_goals first | with_reducible rfl | rw [if_neg (by omega)]
            simp only [Act.put, List.setIfInBounds_toArray, List.set]
            refine wpAnyH_take (i := 23) (oi := _) (v := ?_) (by (simp only [List.getElem?_toArray]; rfl)) (by kernel_rfl) (by kernel_rfl) (by kernel_rfl) (by exact fun _ _ _ h => h) (Or.inl ⟨by rfl, ?_⟩) (by assumption) ?_
            rotate_left
            · intro wS hSw
              go_simp
              all_goals first | with_reducible rfl | rw [if_neg (by omega)]
            simp only [Act.put, List.setIfInBounds_toArray, List.set]
            refine wpAnyH_take (i := 24) (oi := _) (v := ?_) (by (simp only [List.getElem?_toArray]; rfl)) (by kernel_rfl) (by kernel_rfl) (by kernel_rfl) (by exact fun _ _ _ h => h) (Or.inl ⟨by rfl, ?_⟩) (by assumption) ?_
            rotate_left
            · intro wS hSw
              go_simp
              all_goals first | with_reducible rfl | rw [if_neg (by omega)]
            simp only [Act.put, List.setIfInBounds_toArray, List.set]
            refine wpAnyH_take (i := 25) (oi := _) (v := ?_) (by (simp only [List.getElem?_toArray]; rfl)) (by kernel_rfl) (by kernel_rfl) (by kernel_rfl) (by exact fun _ _ _ h => h) (Or.inl ⟨by rfl, ?_⟩) (by assumption) ?_
            rotate_left
            · intro wS hSw
              go_simp
              all_goals first | with_reducible rfl | rw [if_neg (by omega)]
            simp only [Act.put, List.setIfInBounds_toArray, List.set]
            refine wpAnyH_take (i := 26) (oi := _) (v := ?_) (by (simp only [List.getElem?_toArray]; rfl)) (by kernel_rfl) (by kernel_rfl) (by kernel_rfl) (by exact fun _ _ _ h => h) (Or.inl ⟨by rfl, ?_⟩) (by assumption) ?_
            rotate_left
            · intro wS hSw
              go_simp
              all_goals first | with_reducible rfl | rw [if_neg (by omega)]
            simp only [Act.put, List.setIfInBounds_toArray, List.set]
            refine wpAnyH_take (i := 27) (oi := _) (v := ?_) (by (simp only [List.getElem?_toArray]; rfl)) (by kernel_rfl) (by kernel_rfl) (by kernel_rfl) (by exact fun _ _ _ h => h) (Or.inl ⟨by rfl, ?_⟩) (by assumption) ?_
            rotate_left
            · intro wS hSw
              go_simp
              all_goals first | with_reducible rfl | rw [if_neg (by omega)]
            simp only [Act.put, List.setIfInBounds_toArray, List.set]
            refine wpAnyH_take (i := 28) (oi := _) (v := ?_) (by (simp only [List.getElem?_toArray]; rfl)) (by kernel_rfl) (by kernel_rfl) (by kernel_rfl) (by exact fun _ _ _ h => h) (Or.inl ⟨by rfl, ?_⟩) (by assumption) ?_
            rotate_left
            · intro wS hSw
              go_simp
              all_goals first | with_reducible rfl | rw [if_neg (by omega)]
            simp only [Act.put, List.setIfInBounds_toArray, List.set]
            refine wpAnyH_take (i := 29) (oi := _) (v := ?_) (by (simp only [List.getElem?_toArray]; rfl)) (by kernel_rfl) (by kernel_rfl) (by kernel_rfl) (by exact fun _ _ _ h => h) (Or.inl ⟨by rfl, ?_⟩) (by assumption) ?_
            rotate_left
            · intro wS hSw
              go_simp
              all_goals first | with_reducible rfl | rw [if_neg (by omega)]
            simp only [Act.put, List.setIfInBounds_toArray, List.set]
            refine wpAnyH_take (i := 30) (oi := _) (v := ?_) (by (simp only [List.getElem?_toArray]; rfl)) (by kernel_rfl) (by kernel_rfl) (by kernel_rfl) (by exact fun _ _ _ h => h) (Or.inl ⟨by rfl, ?_⟩) (by assumption) ?_
            rotate_left
            · intro wS hSw
              go_simp
              all_goals first | with_reducible rfl | rw [if_neg (by omega)]
            simp only [Act.put, List.setIfInBounds_toArray, List.set]
            refine wpAnyH_take (i := 31) (oi := _) (v := ?_) (by (simp only [List.getElem?_toArray]; rfl)) (by kernel_rfl) (by kernel_rfl) (by kernel_rfl) (by exact fun _ _ _ h => h) (Or.inl ⟨by rfl, ?_⟩) (by assumption) ?_
            rotate_left
            · intro wS hSw
              go_simp
              all_goals first | with_reducible rfl | rw [if_neg (by omega)]
            simp only [Act.put, List.setIfInBounds_toArray, List.set]
            refine wpAnyH_take (i := 32) (oi := _) (v := ?_) (by (simp only [List.getElem?_toArray]; rfl)) (by kernel_rfl) (by kernel_rfl) (by kernel_rfl) (by exact fun _ _ _ h => h) (Or.inl ⟨by rfl, ?_⟩) (by assumption) ?_
            rotate_left
            · intro wS hSw
              go_simp
              all_goals first | with_reducible rfl | rw [if_neg (by omega)]
            simp only [Act.put, List.setIfInBounds_toArray, List.set]
            refine wpAnyH_take (i := 34) (oi := _) (v := ?_) (by (simp only [List.getElem?_toArray]; rfl)) (by kernel_rfl) (by kernel_rfl) (by kernel_rfl) (by exact fun _ _ _ h => h) (Or.inl ⟨by rfl, ?_⟩) (by assumption) ?_
            rotate_left
            · intro wS hSw
              go_simp
              all_goals first | with_reducible rfl | rw [if_neg (by omega)]
            simp only [Act.put, List.setIfInBounds_toArray, List.set]
            clear hHeld
            refine wpAnyH_ready (rs := [33]) (by kernel_rfl) (by simp) ?_
            refine AllReadyH.cons (o := _) (by (simp only [List.getElem?_toArray]; rfl)) (fun K hK => ?_) AllReadyH.nil
            go_simp
            refine (CXG.out _ (below_next T9.out t4.out.2)).mono ?_
            rintro e u5 ⟨v1, rfl, ov1, kk⟩
            obtain ⟨p0, q0, p1, q1, p2, q2, rfl, o1⟩ := ov1.rows
            have t5 := Lib.hid (KeptB.next (Nat.le_refl _) t4.out kk)
            have Q1 := Lib.hid o1
            clear kk ov1 o1
            refine hK.out _ _ t5.out (fun hHeld => ?_)
            clear hK K
            try simp only [Act.put, List.setIfInBounds_toArray, List.set]
            clear hHeld
            refine wpAnyH_ready (rs := [35]) (by kernel_rfl) (by simp) ?_
            refine AllReadyH.cons (o := _) (by (simp only [List.getElem?_toArray]; rfl)) (fun K hK => ?_) AllReadyH.nil
            go_simp
            refine (CG.out _ (below_next W9.out (below_next T9.out t5.out.2))).mono ?_
            rintro e u6 ⟨v1, rfl, ov1, kk⟩
            obtain ⟨m0, n0, m1, n1, m2, n2, rfl, o1⟩ := ov1.rows
            have t6 := Lib.hid (KeptB.next (Nat.le_refl _) t5.out kk)
            have Q2 := Lib.hid o1
            have Q15 := Lib.hid (Q1.out.below kk)
            clear kk ov1 o1 Q1
            refine hK.out _ _ t6.out (fun hHeld => ?_)
            clear hK K
            try simp only [Act.put, List.setIfInBounds_toArray, List.set]
            clear hHeld
            refine wpAnyH_ready (rs := [36]) (by kernel_rfl) (by simp) ?_
            refine AllReadyH.cons (o := _) (by (simp only [List.getElem?_toArray]; rfl)) (fun K hK => ?_) AllReadyH.nil
            go_simp
            refine (wpGame_c gz p0 p1 p2 m0 m1 m2 _ _ _ q0 q1 q2 n0 n1 n2 _ (Q15.out.e.sl five_len) (Q15.out.f.sl int_len) (Q15.out.l.sl int_len) (Q2.out.e.sl five_len) (Q2.out.f.sl int_len) (Q2.out.l.sl int_len)).mono ?_
            rintro e u7 ⟨rfl, kk⟩
            have t7 := Lib.hid (KeptB.next (Nat.le_refl _) t6.out kk)
            clear kk Q15 Q2
            refine hK.out _ _ t7.out (fun hHeld => ?_)
            clear hK K
            try simp only [Act.put, List.setIfInBounds_toArray, List.set]
            refine wpAnyH_take (i := 37) (oi := _) (v := ?_) (by (simp only [List.getElem?_toArray]; rfl)) (by kernel_rfl) (by kernel_rfl) (by kernel_rfl) (by exact fun _ _ _ h => h) (Or.inl ⟨by rfl, ?_⟩) (by assumption) ?_
            rotate_left
            · intro wS hSw
              go_simp
              all_goals first | with_reducible rfl | rw [if_neg (by omega)]
            simp only [Act.put, List.setIfInBounds_toArray, List.set]
            refine wpAnyH_take (i := 38) (oi := _) (v := ?_) (by (simp only [List.getElem?_toArray]; rfl)) (by kernel_rfl) (by kernel_rfl) (by kernel_rfl) (by exact fun _ _ _ h => h) (Or.inl ⟨by rfl, ?_⟩) (by assumption) ?_
            rotate_left
            · intro wS hSw
              go_simp
              all_goals first | with_reducible rfl | rw [if_neg (by omega)]
            simp only [Act.put, List.setIfInBounds_toArray, List.set]
            refine wpAnyH_take (i := 39) (oi := _) (v := ?_) (by (simp only [List.getElem?_toArray]; rfl)) (by kernel_rfl) (by kernel_rfl) (by kernel_rfl) (by exact fun _ _ _ h => h) (Or.inl ⟨by rfl, ?_⟩) (by assumption) ?_
            rotate_left
            · intro wS hSw
              go_simp
              all_goals first | with_reducible rfl | rw [if_neg (by omega)]
            simp only [Act.put, List.setIfInBounds_toArray, List.set]
            refine wpAnyH_take (i := 40) (oi := _) (v := ?_) (by (simp only [List.getElem?_toArray]; rfl)) (by kernel_rfl) (by kernel_rfl) (by kernel_rfl) (by exact fun _ _ _ h => h) (Or.inl ⟨by rfl, ?_⟩) (by assumption) ?_
            rotate_left
            · intro wS hSw
              go_simp
              all_goals first | with_reducible rfl | rw [if_neg (by omega)]
            simp only [Act.put, List.setIfInBounds_toArray, List.set]
            refine wpAnyH_take (i := 41) (oi := _) (v := ?_) (by (simp only [List.getElem?_toArray]; rfl)) (by kernel_rfl) (by kernel_rfl) (by kernel_rfl) (by exact fun _ _ _ h => h) (Or.inl ⟨by rfl, ?_⟩) (by assumption) ?_
            rotate_left
            · intro wS hSw
              go_simp
              all_goals first | with_reducible rfl | rw [if_neg (by omega)]
            simp only [Act.put, List.setIfInBounds_toArray, List.set]
            refine wpAnyH_take (i := 42) (oi := _) (v := ?_) (by (simp only [List.getElem?_toArray]; rfl)) (by kernel_rfl) (by kernel_rfl) (by kernel_rfl) (by exact fun _ _ _ h => h) (Or.inl ⟨by rfl, ?_⟩) (by assumption) ?_
            rotate_left
            · intro wS hSw
              go_simp
              all_goals first | with_reducible rfl | rw [if_neg (by omega)]
            simp only [Act.put, List.setIfInBounds_toArray, List.set]
            refine wpAnyH_take (i := 43) (oi := _) (v := ?_) (by (simp only [List.getElem?_toArray]; rfl)) (by kernel_rfl) (by kernel_rfl) (by kernel_rfl) (by exact fun _ _ _ h => h) (Or.inl ⟨by rfl, ?_⟩) (by assumption) ?_
            rotate_left
            · intro wS hSw
              go_simp
              all_goals first | with_reducible rfl | rw [if_neg (by omega)]
            simp only [Act.put, List.setIfInBounds_toArray, List.set]
            refine wpAnyH_take (i := 44) (oi := _) (v := ?_) (by (simp only [List.getElem?_toArray]; rfl)) (by kernel_rfl) (by kernel_rfl) (by kernel_rfl) (by exact fun _ _ _ h => h) (Or.inl ⟨by rfl, ?_⟩) (by assumption) ?_
            rotate_left
            · intro wS hSw
              go_simp
              all_goals first | with_reducible rfl | rw [if_neg (by omega)]
            simp only [Act.put, List.setIfInBounds_toArray, List.set]
            refine wpAnyH_take (i := 45) (oi := _) (v := ?_) (by (simp only [List.getElem?_toArray]; rfl)) (by kernel_rfl) (by kernel_rfl) (by kernel_rfl) (by exact fun _ _ _ h => h) (Or.inl ⟨by rfl, ?_⟩) (by assumption) ?_
            rotate_left
            · intro wS hSw
              go_simp
              all_goals first | with_reducible rfl | rw [if_neg (by omega)]
            simp only [Act.put, List.setIfInBounds_toArray, List.set]
            refine wpAnyH_take (i := 46) (oi := _) (v := ?_) (by (simp only [List.getElem?_toArray]; rfl)) (by kernel_rfl) (by kernel_rfl) (by kernel_rfl) (by exact fun _ _ _ h => h) (Or.inl ⟨by rfl, ?_⟩) (by assumption) ?_
            rotate_left
            · intro wS hSw
              go_simp
              all_goals first | with_reducible rfl | rw [if_neg (by omega)]
            simp only [Act.put, List.setIfInBounds_toArray, List.set]
            refine wpAnyH_take (i := 47) (oi := _) (v := ?_) (by (simp only [List.getElem?_toArray]; rfl)) (by kernel_rfl) (by kernel_rfl) (by kernel_rfl) (by exact fun _ _ _ h => h) (Or.inl ⟨by rfl, ?_⟩) (by assumption) ?_
            rotate_left
            · intro wS hSw
              go_simp
              all_goals first | with_reducible rfl | rw [if_neg (by omega)]
            simp only [Act.put, List.setIfInBounds_toArray, List.set]
            refine wpAnyH_take (i := 48) (oi := _) (v := ?_) (by (simp only [List.getElem?_toArray]; rfl)) (by kernel_rfl) (by kernel_rfl) (by kernel_rfl) (by exact fun _ _ _ h => h) (Or.inl ⟨by rfl, ?_⟩) (by assumption) ?_
            rotate_left
            · intro wS hSw
              go_simp
              all_goals first | with_reducible rfl | rw [if_neg (by omega)]
            simp only [Act.put, List.setIfInBounds_toArray, List.set]
            refine wpAnyH_take (i := 49) (oi := _) (v := ?_) (by (simp only [List.getElem?_toArray]; rfl)) (by kernel_rfl) (by kernel_rfl) (by kernel_rfl) (by exact fun _ _ _ h => h) (Or.inl ⟨by rfl, ?_⟩) (by assumption) ?_
            rotate_left
            · intro wS hSw
              go_simp
              all_goals first | with_reducible rfl | rw [if_neg (by omega)]
            simp only [Act.put, List.setIfInBounds_toArray, List.set]
            refine wpAnyH_take (i := 50) (oi := _) (v := ?_) (by (simp only [List.getElem?_toArray]; rfl)) (by kernel_rfl) (by kernel_rfl) (by kernel_rfl) (by exact fun _ _ _ h => h) (Or.inl ⟨by rfl, ?_⟩) (by assumption) ?_
            rotate_left
            · intro wS hSw
              go_simp
              all_goals first | with_reducible rfl | rw [if_neg (by omega)]
            simp only [Act.put, List.setIfInBounds_toArray, List.set]
            refine wpAnyH_take (i := 51) (oi := _) (v := ?_) (by (simp only [List.getElem?_toArray]; rfl)) (by kernel_rfl) (by kernel_rfl) (by kernel_rfl) (by exact fun _ _ _ h => h) (Or.inl ⟨by rfl, ?_⟩) (by assumption) ?_
            rotate_left
            · intro wS hSw
              go_simp
              all_goals first | with_reducible rfl | rw [if_neg (by omega)]
            simp only [Act.put, List.setIfInBounds_toArray, List.set]
            refine wpAnyH_take (i := 52) (oi := _) (v := ?_) (by (simp only [List.getElem?_toArray]; rfl)) (by kernel_rfl) (by kernel_rfl) (by kernel_rfl) (by exact fun _ _ _ h => h) (Or.inl ⟨by rfl, ?_⟩) (by assumption) ?_
            rotate_left
            · intro wS hSw
              go_simp
              all_goals first | with_reducible rfl | rw [if_neg (by omega)]
            simp only [Act.put, List.setIfInBounds_toArray, List.set]
            refine wpAnyH_take (i := 53) (oi := _) (v := ?_) (by (simp only [List.getElem?_toArray]; rfl)) (by kernel_rfl) (by kernel_rfl) (by kernel_rfl) (by exact fun _ _ _ h => h) (Or.inl ⟨by rfl, ?_⟩) (by assumption) ?_
            rotate_left
            · intro wS hSw
              go_simp
              all_goals first | with_reducible rfl | rw [if_neg (by omega)]
            simp only [Act.put, List.setIfInBounds_toArray, List.set]
            refine wpAnyH_done (by kernel_rfl) ?_ _
            have K9 := Lib.hid (below_next K1.out (below_next W9.out (below_next T9.out t7.out.2)))
            clear t7 t6 t5
            clear t0 t1 t2 t3 t4 cA lA cX lX cP lP cQ lQ hHeld
            go_wp2_with fail
            go_ret
            exact ⟨rfl, K9.out⟩
end Go.Proofs.Ytofedboeggdkaaa.fnAheadKeep

/-! FnAheadKeep: the law returns true for every input; no condition. -/
namespace Go.Proofs.Ytofedboeggdkaaa.fnAheadKeep
open Go.ChangeShapes hiding open_int
open Go.WideShapes Go.ChangeAt Go.RowKit
open Go.ChangeMaps (shut_string)
set_option linter.unusedVariables false

theorem own : ownKnob Try.prog.godebug = none := by kernel_rfl
theorem laidOut : laidOutB Try.prog = true := by kernel_rfl

set_option maxRecDepth 100000 in
theorem lifted (os : Os) (started : os.Started) (H : Type) (enc : TypeId × Value → H) :
    ReturnsInHanded {} Try.checked os 6 .any (Rows.fnAheadKeepSpec.pre6 enc Try.prog Try.f6 Rows.fnAheadKeepRow.domain false) (Rows.fnAheadKeepSpec.post enc Try.prog Try.f6 false true false false) := by
  refine returnsInHanded_of_change (C := Try.checked) own started (by kernel_rfl) Try.func6
    (ChangeSpec.witness6 (enc := enc) (C := Try.checked) false ⟨#[], #[.slice none 0 0], []⟩ 8 (by kernel_rfl) (by kernel_rfl) (by kernel_rfl) (by kernel_rfl)) ?_
  intro W base args ds gs before hval0 hW hcnd _
  have hval : ∀ (j : Nat) t v, Try.f6.params[j]? = some t → args[j]? = some v → Value.okWide Try.prog W .any base t v := hval0
  have hW' := hW
  obtain ⟨p, q, hA0, hV, rfl, hfz, hnd⟩ := hW
  have hA : DataW.TrodAll enc Try.prog W 0 (fun _ => true) true Try.f6.params.toList args.toList ds p := hA0
  rw [Try.params6] at hA hval
  obtain ⟨v0, vs0, d0, ds0, p0, q0, hargs, rfl, rfl, h0, r0⟩ := trodAll_cons hA
  obtain ⟨rfl, rfl, rfl⟩ := trodAll_nil r0
  obtain rfl : args = #[v0] := by cases args; simp_all
  obtain ⟨rfl, rfl⟩ := trodVars_none hV
  have lt0 : ∀ x ∈ p0, x.block < W.heap.size := by obtain ⟨m, hm⟩ := h0; exact DataW.trod_lt m _ _ _ hm
  obtain ⟨z0, o0⟩ := open_bytes (hval 0 39 v0 rfl rfl) h0
  clear hA0 hval0
  refine (walk v0 z0 W o0).mono fun e W' ⟨he, bel⟩ => ?_
  subst he
  exact ⟨_, rfl, _, _, _, [], _, [], hW', trodAll_mk1 (shut_bool Try.underlying4 _), (trodAll_cons_mk (Below.trod laidOut (by kernel_rfl) (of_decide_eq_true (by kernel_rfl)) h0 bel lt0) trodAll_mk0), rfl, bel.frame _, fun h => by cases h⟩

theorem over : Rows.fnAheadKeepRow.holds Try.pinned (OpenSpec.ofChange Rows.fnAheadKeepSpec) :=
  OpenClaim.holds_of_wide 6 Try.f6 rfl rfl rfl rfl rfl rfl rfl ⟨rfl, rfl, rfl, rfl, rfl⟩ rfl rfl rfl rfl rfl (by kernel_rfl) Try.func6 (by kernel_rfl)
    (of_decide_eq_true (by kernel_rfl)) (by unfold Func.isWrapper; first | (rw [if_pos (by decide +kernel)]; kernel_rfl) | (rw [if_neg (by decide +kernel)]; exact ⟨rfl, rfl⟩))
    (fun os started H enc _ => lifted os started H enc)

theorem proved : Rows.FnAheadKeepSaid := over
end Go.Proofs.Ytofedboeggdkaaa.fnAheadKeep
