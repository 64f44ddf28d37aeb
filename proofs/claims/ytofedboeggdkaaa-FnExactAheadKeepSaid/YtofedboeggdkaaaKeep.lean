/- Contract of the program's AheadKeep; condition: small sizes. -/
import Derived.Test.YtofedboeggdkaaaIdx
import Derived.Test.YtofedboeggdkaaaDelete
namespace Go.Proofs.Ytofedboeggdkaaa
open Go.RowKit Go.Joins

/-- AheadKeep. -/
def keepA (z : Ah) (r : Rq) : Ah × Bool :=
  if aheadB z then
    (if good r && !(decide (idxI z.wt r < 0) && decide (z.dn.length + z.wt.length = 60)) then
      (⟨z.dn ++ [r], if 0 ≤ idxI z.wt r then z.wt.eraseIdx (idxI z.wt r).toNat else z.wt, if 0 < z.wt.length ∧ idxI z.wt r ≠ 0 then (if z.bk + 1 ≤ 99 then z.bk + 1 else 99) else z.bk⟩, true)
    else (z, false))
  else (⟨[], [], 0⟩, false)
theorem keepA_len (z : Ah) (r : Rq) (hs : z.dn.length + z.wt.length ≤ 1048576) : (keepA z r).1.dn.length ≤ 1048577 ∧ (keepA z r).1.wt.length ≤ 1048576 := by
  unfold keepA
  split
  · split
    · refine ⟨by simp only [List.length_append, List.length_cons, List.length_nil]; omega, ?_⟩
      simp only
      split
      · have := List.length_eraseIdx_le z.wt (idxI z.wt r).toNat
        omega
      · omega
    · exact ⟨by simp only; omega, by simp only; omega⟩
  · exact ⟨by simp, by simp⟩
theorem keepA_eq {dn wt wt' : List Rq} {bk nb ix : Int} {r : Rq} (hA : aheadB ⟨dn, wt, bk⟩ = true) (hO : good r = true) (hix : idxI wt r = ix) (h6 : ¬ (ix < 0 ∧ dn.length + wt.length = 60)) (hw : wt' = if 0 ≤ ix then wt.eraseIdx ix.toNat else wt)
    (hb : nb = if 0 < wt.length ∧ ix ≠ 0 then (if bk + 1 ≤ 99 then bk + 1 else 99) else bk) : keepA ⟨dn, wt, bk⟩ r = (⟨dn ++ [r], wt', nb⟩, true) := by
  subst hix hw hb
  unfold keepA
  rw [if_pos hA, hO, if_pos]
  simp only [Bool.true_and, Bool.not_eq_true', Bool.and_eq_false_iff, decide_eq_false_iff_not]
  omega
/-- The place of an ask, as it comes. -/
theorem idxI_range (zs : List Rq) (r : Rq) : idxI zs r = -1 ∨ ∃ k : Nat, idxI zs r = ((k : Nat) : Int) ∧ k < zs.length := by
  unfold idxI
  cases h : idxP zs r with
  | none => exact .inl rfl
  | some k =>
    have hk : k < zs.length := by
      unfold idxP at h
      rw [List.findIdx?_eq_some_iff_getElem] at h
      exact h.1
    exact .inr ⟨k, rfl, hk⟩

set_option maxRecDepth 100000 in
set_option maxHeartbeats 16000000 in
theorem AheadKeep_c (z : Ah) (r : Rq) (a0 a1 : Option Addr) (c0 c1 : Nat) (w : World) (h0 : IsSl w (.slice a0 z.dn.length c0) 5 Rq.cs z.dn) (h1 : IsSl w (.slice a1 z.wt.length c1) 5 Rq.cs z.wt) (hs : z.dn.length + z.wt.length ≤ 1048576) :
    Calls Try.prog 24 #[.agg #[.slice a0 z.dn.length c0, .slice a1 z.wt.length c1, .int .i64 z.bk], .agg #[.int .i64 r.c, .int .i64 r.n, .int .i64 r.o, .int .i64 r.x, .int .i64 r.y]] w (RetA (keepA z r).1 (keepA z r).2 w) := by
  obtain ⟨dn, wt, bk⟩ := z
  simp only at h0 h1 hs ⊢
  have H0 := Lib.hid h0
  have H1 := Lib.hid h1
  clear h0 h1
  by_cases hA : aheadB ⟨dn, wt, bk⟩ = true
  case neg =>
    have hA' : aheadB ⟨dn, wt, bk⟩ = false := by simpa using hA
    have hp : keepA ⟨dn, wt, bk⟩ r = (⟨[], [], 0⟩, false) := by unfold keepA; rw [if_neg hA]
    rw [hp]
    go_enter Try.func24, Try.ntmps24
    go_wp2_with fail
    obtain ⟨W, hW, sW, aW, bW, cW, kW⟩ := blocks3 w (.cells #[.slice a0 dn.length c0, .slice a1 wt.length c1, .int .i64 bk] 30) (.cells #[.int .i64 r.c, .int .i64 r.n, .int .i64 r.o, .int .i64 r.x, .int .i64 r.y] 34) (.cells #[.slice none 0 0, .slice none 0 0, .int .i64 0] 30)
    rw [← hW]
    clear hW
    refine (AheadOk_c ⟨dn, wt, bk⟩ _ _ _ _ _ (H0.out.below kW) (H1.out.below kW) hs).mono ?_
    rintro e w1 ⟨rfl, k1⟩
    rw [hA']
    have K1 := below_next kW k1
    have cz := cell_of_block (carryB k1 (by omega) cW)
    have fz := unfrozen_of_block (carryB k1 (by omega) cW)
    go_wp2_with fail
    refine bodyPost_ret (v := .tuple #[.agg #[.slice none 0 0, .slice none 0 0, .int .i64 0], .bool false]) (by simp [results, Try.results24, go_sem, cz]) rfl ?_
    exact ⟨none, none, rfl, Row.nil _ _ _ _ _ _, Row.nil _ _ _ _ _ _, fun g hg => by simp [rowBlk] at hg, (by repeat' (first | with_reducible exact Below.refl _ _ | with_reducible assumption | with_reducible refine Below.alloc ?_ ?_ _ | with_reducible refine Below.drew ?_ | with_reducible refine Below.setCell ?_ ?_ _ | omega | (simp; omega) | (simp; done)))⟩
  have h60 : dn.length + wt.length ≤ 60 ∧ 0 ≤ bk ∧ bk ≤ 99 := by
    unfold aheadB at hA
    simp only [Bool.and_eq_true, decide_eq_true_eq, inB_iff] at hA
    exact ⟨hA.1.2, hA.2.1, hA.2.2⟩
  obtain ⟨h60, hbk0, hbk1⟩ := h60
  go_enter Try.func24, Try.ntmps24
  go_wp2_with fail
  obtain ⟨W, hW, sW, aW, bW, cW, kW⟩ := blocks3 w (.cells #[.slice a0 dn.length c0, .slice a1 wt.length c1, .int .i64 bk] 30) (.cells #[.int .i64 r.c, .int .i64 r.n, .int .i64 r.o, .int .i64 r.x, .int .i64 r.y] 34) (.cells #[.slice none 0 0, .slice none 0 0, .int .i64 0] 30)
  rw [← hW]
  clear hW
  refine (AheadOk_c ⟨dn, wt, bk⟩ _ _ _ _ _ (H0.out.below kW) (H1.out.below kW) hs).mono ?_
  rintro e w1 ⟨rfl, k1⟩
  rw [hA]
  have K1 := below_next kW k1
  have s1 := k1.size
  replace aW := carryB k1 (by omega) aW
  replace bW := carryB k1 (by omega) bW
  replace cW := carryB k1 (by omega) cW
  have caW := cell_of_block aW
  have faW := unfrozen_of_block aW
  have laW := lt_of_block aW
  clear kW k1
  go_wp2_with fail
  refine (copyOfA_c ⟨dn, wt, bk⟩ _ _ _ _ _ _ w1 (H0.out.below K1) (H1.out.below K1) (by omega) (by omega)).mono ?_
  rintro e w2 ⟨b0, b1, rfl, r0, r1, ap, k2⟩
  have K2 := below_next K1 k2
  have R0 := Lib.hid r0
  have R1 := Lib.hid r1
  have AP := Lib.hid ap
  have HB0 := Lib.hid (fun g (hg : rowBlk b0 dn.length = some g) => r0.blk hg)
  have HB1 := Lib.hid (fun g (hg : rowBlk b1 wt.length = some g) => r1.blk hg)
  have s2 := k2.size
  clear caW faW laW
  replace aW := carryB k2 (by omega) aW
  replace bW := carryB k2 (by omega) bW
  replace cW := carryB k2 (by omega) cW
  clear K1 k2 r0 r1 ap
  have caW := cell_of_block aW
  have faW := unfrozen_of_block aW
  have laW := lt_of_block aW
  have cbW := cell_of_block bW
  have fbW := unfrozen_of_block bW
  have lbW := lt_of_block bW
  have ccW := cell_of_block cW
  have fcW := unfrozen_of_block cW
  have lcW := lt_of_block cW
  go_wp2_with fail
  obtain ⟨X, hX, sX, dW, kX⟩ := blocks1 w2 (.cells #[.slice b0 dn.length dn.length, .slice b1 wt.length wt.length, .int .i64 bk] 30)
  rw [← hX]
  clear hX
  clear caW faW laW cbW fbW lbW ccW fcW lcW
  have KX := below_next K2 kX
  refine (slIndexReq_c a1 wt r _ c1 X (H1.out.below KX)).mono ?_
  rintro e w3 ⟨rfl, k3⟩
  have s3 := k3.size
  replace aW := carryB kX (by omega) aW
  replace bW := carryB kX (by omega) bW
  replace cW := carryB kX (by omega) cW
  replace aW := carryB k3 (by omega) aW
  replace bW := carryB k3 (by omega) bW
  replace cW := carryB k3 (by omega) cW
  replace dW := carryB k3 (by omega) dW
  have K3 := below_next KX k3
  have Q0 := Lib.hid ((R0.out.below kX).below k3)
  have Q1 := Lib.hid ((R1.out.below kX).below k3)
  clear kX k3 K2 KX R0 R1
  have caW := cell_of_block aW
  have faW := unfrozen_of_block aW
  have laW := lt_of_block aW
  have cbW := cell_of_block bW
  have fbW := unfrozen_of_block bW
  have lbW := lt_of_block bW
  have ccW := cell_of_block cW
  have fcW := unfrozen_of_block cW
  have lcW := lt_of_block cW
  have cdW := cell_of_block dW
  have fdW := unfrozen_of_block dW
  have ldW := lt_of_block dW
  go_wp2_with fail
  refine (okOrNull_c r.c r.n r.o r.x r.y w3).mono ?_
  rintro e w4 ⟨rfl, k4⟩
  have s4 := k4.size
  clear caW faW laW cbW fbW lbW ccW fcW lcW cdW fdW ldW
  replace aW := carryB k4 (by omega) aW
  replace bW := carryB k4 (by omega) bW
  replace cW := carryB k4 (by omega) cW
  replace dW := carryB k4 (by omega) dW
  have K4 := below_next K3 k4
  have P0 := Lib.hid (Q0.out.below k4)
  have P1 := Lib.hid (Q1.out.below k4)
  clear k4 K3 Q0 Q1
  have caW := cell_of_block aW
  have faW := unfrozen_of_block aW
  have laW := lt_of_block aW
  have cbW := cell_of_block bW
  have fbW := unfrozen_of_block bW
  have lbW := lt_of_block bW
  have ccW := cell_of_block cW
  have fcW := unfrozen_of_block cW
  have lcW := lt_of_block cW
  have cdW := cell_of_block dW
  have fdW := unfrozen_of_block dW
  have ldW := lt_of_block dW
  have ne_ : ¬ (w.heap.size + 1 + 1 = w2.heap.size) := by omega
  have ne_ : ¬ (w2.heap.size = w.heap.size + 1 + 1) := by omega
  have hgd : goodB r.c r.n r.o r.x r.y = good r := rfl
  rw [hgd]
  clear hgd
  cases hO : good r with
  | false =>
    have hp : keepA ⟨dn, wt, bk⟩ r = (⟨dn, wt, bk⟩, false) := by unfold keepA; rw [if_pos hA, hO]; rfl
    go_wp2_with fail
    refine bodyPost_ret (v := .tuple #[.agg #[.slice b0 dn.length dn.length, .slice b1 wt.length wt.length, .int .i64 bk], .bool false]) (by simp [results, Try.results24, go_sem, ccW]) rfl ?_
    rw [hp]
    exact ⟨b0, b1, rfl, (((P0.out.setOther (by simp <;> omega) _).setOther (by simp <;> omega) _).setOther (by simp <;> omega) _).low (by omega), (((P1.out.setOther (by simp <;> omega) _).setOther (by simp <;> omega) _).setOther (by simp <;> omega) _).low (by omega), AP.out, (by repeat' (first | with_reducible exact Below.refl _ _ | with_reducible assumption | with_reducible refine Below.alloc ?_ ?_ _ | with_reducible refine Below.drew ?_ | with_reducible refine Below.setCell ?_ ?_ _ | omega | (simp; omega) | (simp; done)))⟩
  | true =>
    have HX := Lib.hid (idxI_range wt r)
    generalize hix : idxI wt r = ix at *
    have HIX := Lib.hid hix
    clear hix

    rcases HX.out with hix | ⟨k, hix, hk⟩
    · subst hix
      have hl0 := H0.out.bounds
      have hl1 := H1.out.bounds
      have hb0 := Lib.hid (And.intro hl0.2.1 hl0.2.2.1)
      have hb1 := Lib.hid (And.intro hl1.2.1 hl1.2.2.1)
      clear hl0 hl1
      go_wp2_with fail
      refine (size_c a0 a1 _ _ c0 c1 bk w4 hb0.out.1 hb0.out.2 hb1.out.1 hb1.out.2 (by omega)).mono ?_
      rintro e w5 ⟨rfl, k5⟩
      have s5 := k5.size
      clear caW faW laW cbW fbW lbW ccW fcW lcW cdW fdW ldW
      replace aW := carryB k5 (by omega) aW
      replace bW := carryB k5 (by omega) bW
      replace cW := carryB k5 (by omega) cW
      replace dW := carryB k5 (by omega) dW
      have K5 := below_next K4 k5
      have PA0 := Lib.hid (P0.out.below k5)
      have PA1 := Lib.hid (P1.out.below k5)
      clear k5 K4 P0 P1
      have caW := cell_of_block aW
      have faW := unfrozen_of_block aW
      have laW := lt_of_block aW
      have cbW := cell_of_block bW
      have fbW := unfrozen_of_block bW
      have lbW := lt_of_block bW
      have ccW := cell_of_block cW
      have fcW := unfrozen_of_block cW
      have lcW := lt_of_block cW
      have cdW := cell_of_block dW
      have fdW := unfrozen_of_block dW
      have ldW := lt_of_block dW
      by_cases h6 : dn.length + wt.length = 60
      · have hp : keepA ⟨dn, wt, bk⟩ r = (⟨dn, wt, bk⟩, false) := by unfold keepA; rw [if_pos hA, hO, HIX.out]; simp [h6]
        have h60' : ((dn.length : Int) + (wt.length : Int)) = 60 := by omega
        rw [h60']
        go_wp2_with fail
        refine bodyPost_ret (v := .tuple #[.agg #[.slice b0 dn.length dn.length, .slice b1 wt.length wt.length, .int .i64 bk], .bool false]) (by simp [results, Try.results24, go_sem, ccW]) rfl ?_
        rw [hp]
        exact ⟨b0, b1, rfl, (((PA0.out.setOther (by first | omega | (simp <;> omega)) _).setOther (by first | omega | (simp <;> omega)) _).setOther (by first | omega | (simp <;> omega)) _).low (by omega), (((PA1.out.setOther (by first | omega | (simp <;> omega)) _).setOther (by first | omega | (simp <;> omega)) _).setOther (by first | omega | (simp <;> omega)) _).low (by omega), AP.out, (by repeat' (first | with_reducible exact Below.refl _ _ | with_reducible assumption | with_reducible refine Below.alloc ?_ ?_ _ | with_reducible refine Below.drew ?_ | with_reducible refine Below.setCell ?_ ?_ _ | omega | (simp; omega) | (simp; done)))⟩
      · have h60' : ¬ ((dn.length : Int) + (wt.length : Int)) = 60 := by omega
        have H6 := Lib.hid h6
        clear h6
        by_cases hw0 : wt.length = 0
        · have hw0' : ¬ (0 : Int) < (wt.length : Int) := by omega
          have HW0 := Lib.hid hw0
          clear hw0
          have hR0 := Lib.hid (PA0.out)
          have hR1 := Lib.hid (PA1.out)
          have Y0 := Lib.hid hR0.out
          have Y1 := Lib.hid hR1.out
          have hRA := rowsAt_one w5 r 34
          have RA := Lib.hid hRA
          clear hRA
          go_wp2_with (at_builtin; refine wpList_append_row rfl _ _ rfl (dn.length + 1) eltReq rfl rfl (Row.alloc Y0.out (.cells #[.int .i64 r.c, .int .i64 r.n, .int .i64 r.o, .int .i64 r.x, .int .i64 r.y] 34)) RA.out rfl rfl rfl (by simp only [maxLen]; omega) (by omega) (by simp <;> omega) ?_)
          intro b2 c2 w6 q6
          have aW6 := (q6.grown.block _ (by first | omega | (simp <;> omega)) (fun e => by have := HB0.out _ e.symm; omega)).trans ((Below.heap_alloc _ _ _ (by first | omega | (simp <;> omega))).trans aW)
          have bW6 := (q6.grown.block _ (by first | omega | (simp <;> omega)) (fun e => by have := HB0.out _ e.symm; omega)).trans ((Below.heap_alloc _ _ _ (by first | omega | (simp <;> omega))).trans bW)
          have cW6 := (q6.grown.block _ (by first | omega | (simp <;> omega)) (fun e => by have := HB0.out _ e.symm; omega)).trans ((Below.heap_alloc _ _ _ (by first | omega | (simp <;> omega))).trans cW)
          have dW6 := (q6.grown.block _ (by first | omega | (simp <;> omega)) (fun e => by have := HB0.out _ e.symm; omega)).trans ((Below.heap_alloc _ _ _ (by first | omega | (simp <;> omega))).trans dW)
          have s6 := q6.grown.size
          simp only [World.size_alloc, World.size_setCell] at s6
          have K6 := Lib.hid ((Below.alloc (K5) (by first | omega | (simp <;> omega)) (.cells #[.int .i64 r.c, .int .i64 r.n, .int .i64 r.o, .int .i64 r.x, .int .i64 r.y] 34)).grown q6.grown (by first | omega | (simp <;> omega)) (fun g hg => by have := HB0.out g hg; omega))
          have P16 := Lib.hid ((Y1.out.alloc (.cells #[.int .i64 r.c, .int .i64 r.n, .int .i64 r.o, .int .i64 r.x, .int .i64 r.y] 34)).kept q6.grown (fun g hg e => AP.out g e hg))
          have hl6 : (dn ++ [r]).length = dn.length + 1 := by simp
          have i6 := q6.row.sl' five_len hl6
          have I6 := Lib.hid i6
          have HL6 := Lib.hid hl6
          clear i6 hl6 q6 Y0 Y1 RA hR0 hR1 
          clear caW faW laW cbW fbW lbW ccW fcW lcW cdW fdW ldW
          clear aW bW cW dW
          have aW := aW6
          have bW := bW6
          have cW := cW6
          have dW : w6.heap[w2.heap.size]? = some (.cells #[.slice b0 dn.length dn.length, .slice b1 wt.length wt.length, .int .i64 bk] 30 (0, 0)) := dW6
          clear aW6 bW6 cW6 dW6
          have caW := cell_of_block aW
          have faW := unfrozen_of_block aW
          have laW := lt_of_block aW
          have cbW := cell_of_block bW
          have fbW := unfrozen_of_block bW
          have lbW := lt_of_block bW
          have ccW := cell_of_block cW
          have fcW := unfrozen_of_block cW
          have lcW := lt_of_block cW
          have cdW := cell_of_block dW
          have fdW := unfrozen_of_block dW
          have ldW := lt_of_block dW
          go_wp2_with fail
          refine (cloneReq_c b2 (dn.length + 1) c2 (dn ++ [r]) w6 I6.out (by omega)).mono ?_
          rintro e w7 ⟨b3, rfl, r3, k7⟩
          have s7 := k7.size
          have K7 := Lib.hid (below_next K6.out k7)
          have P17 := Lib.hid (P16.out.below k7)
          have ap3 := Lib.hid (r3.apart P16.out (Nat.le_refl _))
          have R3 := Lib.hid r3
          clear caW faW laW cbW fbW lbW ccW fcW lcW cdW fdW ldW
          replace aW := carryB k7 (by omega) aW
          replace bW := carryB k7 (by omega) bW
          replace cW := carryB k7 (by omega) cW
          replace dW := carryB k7 (by omega) dW
          clear k7 r3
          have caW := cell_of_block aW
          have faW := unfrozen_of_block aW
          have laW := lt_of_block aW
          have cbW := cell_of_block bW
          have fbW := unfrozen_of_block bW
          have lbW := lt_of_block bW
          have ccW := cell_of_block cW
          have fcW := unfrozen_of_block cW
          have lcW := lt_of_block cW
          have cdW := cell_of_block dW
          have fdW := unfrozen_of_block dW
          have ldW := lt_of_block dW
          go_wp2_with fail
          refine bodyPost_ret (v := .tuple #[.agg #[.slice b3 (dn.length + 1) (dn.length + 1), .slice b1 wt.length wt.length, .int .i64 bk], .bool true]) (by simp [results, Try.results24, go_sem, ccW]) rfl ?_
          have hp := keepA_eq (wt' := wt) (nb := bk) hA hO HIX.out (by have := H6.out; omega) (by rw [if_neg (by omega)]) (by rw [if_neg (by have := HW0.out; omega)])
          rw [hp]
          unfold RetA
          simp only [HL6.out]
          have K7' := K7.out
          refine ⟨b3, b1, rfl, ?_, ?_, fun g u v => ap3.out g v u, (by repeat' (first | with_reducible exact Below.refl _ _ | with_reducible assumption | with_reducible refine Below.alloc ?_ ?_ _ | with_reducible refine Below.drew ?_ | with_reducible refine Below.setCell ?_ ?_ _ | omega | (simp; omega) | (simp; done)))⟩
          · exact ((((R3.out.setOther (by first | omega | (simp <;> omega)) _).setOther (by first | omega | (simp <;> omega)) _).setOther (by first | omega | (simp <;> omega)) _).setOther (by first | omega | (simp <;> omega)) _).low (by omega)
          · exact ((((P17.out.setNe (fun g hg => by have := (HB1.out g hg).2; simp only; omega) _).setOther (by first | omega | (simp <;> omega)) _).setOther (by first | omega | (simp <;> omega)) _).setOther (by first | omega | (simp <;> omega)) _).low (by omega)
        · have hw0' : (0 : Int) < (wt.length : Int) := by omega
          rcases (show bk ≤ 97 ∨ bk = 98 ∨ bk = 99 by omega) with h97 | h97 | h97
          · skip
            have hR0 := Lib.hid (PA0.out)
            have hR1 := Lib.hid (PA1.out)
            have hb1' : IntKind.i64.wrap (bk + 1) = bk + 1 := IntWalk.i64_in _ ⟨by omega, by omega⟩
            have hb2' : bk + 1 < 99 := by omega
            have hb3' : ¬ 99 < bk + 1 := by omega
            have hb4' : bk < 98 := by omega
            have hb5' : ¬ 98 < bk := by omega
            obtain ⟨Y, hY, sY, dY, oY, kY⟩ := stored1 w5 w2.heap.size 2 (.int .i64 (bk + 1)) dW
            have Y0 := Lib.hid (Row.setNe (p := ⟨w2.heap.size, 2, none⟩) hR0.out (fun g hg => by have := (HB0.out g hg).2; simp only; omega) (.int .i64 (bk + 1)))
            have Y1 := Lib.hid (Row.setNe (p := ⟨w2.heap.size, 2, none⟩) hR1.out (fun g hg => by have := (HB1.out g hg).2; simp only; omega) (.int .i64 (bk + 1)))
            have HY := Lib.hid hY
            clear hY
            have hRA := rowsAt_one (w5.setCell ⟨w2.heap.size, 2, none⟩ (.int .i64 (bk + 1))) r 34
            rw [show (w5.setCell ⟨w2.heap.size, 2, none⟩ (.int .i64 (bk + 1))).heap.size = w5.heap.size by simp] at hRA
            have RA := Lib.hid hRA
            clear hRA
            go_wp2_with (at_builtin; refine wpList_append_row rfl _ _ rfl (dn.length + 1) eltReq rfl rfl (Row.alloc Y0.out (.cells #[.int .i64 r.c, .int .i64 r.n, .int .i64 r.o, .int .i64 r.x, .int .i64 r.y] 34)) RA.out rfl rfl rfl (by simp only [maxLen]; omega) (by omega) (by simp <;> omega) ?_)
            intro b2 c2 w6 q6
            have aW6 := (q6.grown.block _ (by first | omega | (simp <;> omega)) (fun e => by have := HB0.out _ e.symm; omega)).trans ((Below.heap_alloc _ _ _ (by first | omega | (simp <;> omega))).trans ((Below.heap_setCell _ _ _ _ (by first | omega | (simp <;> omega))).trans aW))
            have bW6 := (q6.grown.block _ (by first | omega | (simp <;> omega)) (fun e => by have := HB0.out _ e.symm; omega)).trans ((Below.heap_alloc _ _ _ (by first | omega | (simp <;> omega))).trans ((Below.heap_setCell _ _ _ _ (by first | omega | (simp <;> omega))).trans bW))
            have cW6 := (q6.grown.block _ (by first | omega | (simp <;> omega)) (fun e => by have := HB0.out _ e.symm; omega)).trans ((Below.heap_alloc _ _ _ (by first | omega | (simp <;> omega))).trans ((Below.heap_setCell _ _ _ _ (by first | omega | (simp <;> omega))).trans cW))
            have dW6 := (q6.grown.block _ (by first | omega | (simp <;> omega)) (fun e => by have := HB0.out _ e.symm; omega)).trans ((Below.heap_alloc _ _ _ (by first | omega | (simp <;> omega))).trans (block_setCell (i := 2) dW (.int .i64 (bk + 1))))
            have s6 := q6.grown.size
            simp only [World.size_alloc, World.size_setCell] at s6
            have K6 := Lib.hid ((Below.alloc (K5.setCell (p := ⟨w2.heap.size, 2, none⟩) (by first | omega | (simp <;> omega)) (.int .i64 (bk + 1))) (by first | omega | (simp <;> omega)) (.cells #[.int .i64 r.c, .int .i64 r.n, .int .i64 r.o, .int .i64 r.x, .int .i64 r.y] 34)).grown q6.grown (by first | omega | (simp <;> omega)) (fun g hg => by have := HB0.out g hg; omega))
            have P16 := Lib.hid ((Y1.out.alloc (.cells #[.int .i64 r.c, .int .i64 r.n, .int .i64 r.o, .int .i64 r.x, .int .i64 r.y] 34)).kept q6.grown (fun g hg e => AP.out g e hg))
            have hl6 : (dn ++ [r]).length = dn.length + 1 := by simp
            have i6 := q6.row.sl' five_len hl6
            have I6 := Lib.hid i6
            have HL6 := Lib.hid hl6
            clear i6 hl6 q6 Y0 Y1 RA hR0 hR1 HY sY oY kY dY
            clear caW faW laW cbW fbW lbW ccW fcW lcW cdW fdW ldW
            clear aW bW cW dW
            have aW := aW6
            have bW := bW6
            have cW := cW6
            have dW : w6.heap[w2.heap.size]? = some (.cells #[.slice b0 dn.length dn.length, .slice b1 wt.length wt.length, .int .i64 (bk + 1)] 30 (0, 0)) := dW6
            clear aW6 bW6 cW6 dW6
            have caW := cell_of_block aW
            have faW := unfrozen_of_block aW
            have laW := lt_of_block aW
            have cbW := cell_of_block bW
            have fbW := unfrozen_of_block bW
            have lbW := lt_of_block bW
            have ccW := cell_of_block cW
            have fcW := unfrozen_of_block cW
            have lcW := lt_of_block cW
            have cdW := cell_of_block dW
            have fdW := unfrozen_of_block dW
            have ldW := lt_of_block dW
            go_wp2_with fail
            refine (cloneReq_c b2 (dn.length + 1) c2 (dn ++ [r]) w6 I6.out (by omega)).mono ?_
            rintro e w7 ⟨b3, rfl, r3, k7⟩
            have s7 := k7.size
            have K7 := Lib.hid (below_next K6.out k7)
            have P17 := Lib.hid (P16.out.below k7)
            have ap3 := Lib.hid (r3.apart P16.out (Nat.le_refl _))
            have R3 := Lib.hid r3
            clear caW faW laW cbW fbW lbW ccW fcW lcW cdW fdW ldW
            replace aW := carryB k7 (by omega) aW
            replace bW := carryB k7 (by omega) bW
            replace cW := carryB k7 (by omega) cW
            replace dW := carryB k7 (by omega) dW
            clear k7 r3
            have caW := cell_of_block aW
            have faW := unfrozen_of_block aW
            have laW := lt_of_block aW
            have cbW := cell_of_block bW
            have fbW := unfrozen_of_block bW
            have lbW := lt_of_block bW
            have ccW := cell_of_block cW
            have fcW := unfrozen_of_block cW
            have lcW := lt_of_block cW
            have cdW := cell_of_block dW
            have fdW := unfrozen_of_block dW
            have ldW := lt_of_block dW
            go_wp2_with fail
            refine bodyPost_ret (v := .tuple #[.agg #[.slice b3 (dn.length + 1) (dn.length + 1), .slice b1 wt.length wt.length, .int .i64 (bk + 1)], .bool true]) (by simp [results, Try.results24, go_sem, ccW]) rfl ?_
            have hp := keepA_eq (wt' := wt) (nb := (bk + 1)) hA hO HIX.out (by have := H6.out; omega) (by rw [if_neg (by omega)]) (by rw [if_pos ⟨by omega, by omega⟩, if_pos (by omega)])
            rw [hp]
            unfold RetA
            simp only [HL6.out]
            have K7' := K7.out
            refine ⟨b3, b1, rfl, ?_, ?_, fun g u v => ap3.out g v u, (by repeat' (first | with_reducible exact Below.refl _ _ | with_reducible assumption | with_reducible refine Below.alloc ?_ ?_ _ | with_reducible refine Below.drew ?_ | with_reducible refine Below.setCell ?_ ?_ _ | omega | (simp; omega) | (simp; done)))⟩
            · exact ((((R3.out.setOther (by first | omega | (simp <;> omega)) _).setOther (by first | omega | (simp <;> omega)) _).setOther (by first | omega | (simp <;> omega)) _).setOther (by first | omega | (simp <;> omega)) _).low (by omega)
            · exact ((((P17.out.setNe (fun g hg => by have := (HB1.out g hg).2; simp only; omega) _).setOther (by first | omega | (simp <;> omega)) _).setOther (by first | omega | (simp <;> omega)) _).setOther (by first | omega | (simp <;> omega)) _).low (by omega)
          · subst h97
            have hR0 := Lib.hid (PA0.out)
            have hR1 := Lib.hid (PA1.out)
            obtain ⟨Y, hY, sY, dY, oY, kY⟩ := stored1 w5 w2.heap.size 2 (.int .i64 99) dW
            have Y0 := Lib.hid (Row.setNe (p := ⟨w2.heap.size, 2, none⟩) hR0.out (fun g hg => by have := (HB0.out g hg).2; simp only; omega) (.int .i64 99))
            have Y1 := Lib.hid (Row.setNe (p := ⟨w2.heap.size, 2, none⟩) hR1.out (fun g hg => by have := (HB1.out g hg).2; simp only; omega) (.int .i64 99))
            have HY := Lib.hid hY
            clear hY
            have hRA := rowsAt_one (w5.setCell ⟨w2.heap.size, 2, none⟩ (.int .i64 99)) r 34
            rw [show (w5.setCell ⟨w2.heap.size, 2, none⟩ (.int .i64 99)).heap.size = w5.heap.size by simp] at hRA
            have RA := Lib.hid hRA
            clear hRA
            go_wp2_with (at_builtin; refine wpList_append_row rfl _ _ rfl (dn.length + 1) eltReq rfl rfl (Row.alloc Y0.out (.cells #[.int .i64 r.c, .int .i64 r.n, .int .i64 r.o, .int .i64 r.x, .int .i64 r.y] 34)) RA.out rfl rfl rfl (by simp only [maxLen]; omega) (by omega) (by simp <;> omega) ?_)
            intro b2 c2 w6 q6
            have aW6 := (q6.grown.block _ (by first | omega | (simp <;> omega)) (fun e => by have := HB0.out _ e.symm; omega)).trans ((Below.heap_alloc _ _ _ (by first | omega | (simp <;> omega))).trans ((Below.heap_setCell _ _ _ _ (by first | omega | (simp <;> omega))).trans aW))
            have bW6 := (q6.grown.block _ (by first | omega | (simp <;> omega)) (fun e => by have := HB0.out _ e.symm; omega)).trans ((Below.heap_alloc _ _ _ (by first | omega | (simp <;> omega))).trans ((Below.heap_setCell _ _ _ _ (by first | omega | (simp <;> omega))).trans bW))
            have cW6 := (q6.grown.block _ (by first | omega | (simp <;> omega)) (fun e => by have := HB0.out _ e.symm; omega)).trans ((Below.heap_alloc _ _ _ (by first | omega | (simp <;> omega))).trans ((Below.heap_setCell _ _ _ _ (by first | omega | (simp <;> omega))).trans cW))
            have dW6 := (q6.grown.block _ (by first | omega | (simp <;> omega)) (fun e => by have := HB0.out _ e.symm; omega)).trans ((Below.heap_alloc _ _ _ (by first | omega | (simp <;> omega))).trans (block_setCell (i := 2) dW (.int .i64 99)))
            have s6 := q6.grown.size
            simp only [World.size_alloc, World.size_setCell] at s6
            have K6 := Lib.hid ((Below.alloc (K5.setCell (p := ⟨w2.heap.size, 2, none⟩) (by first | omega | (simp <;> omega)) (.int .i64 99)) (by first | omega | (simp <;> omega)) (.cells #[.int .i64 r.c, .int .i64 r.n, .int .i64 r.o, .int .i64 r.x, .int .i64 r.y] 34)).grown q6.grown (by first | omega | (simp <;> omega)) (fun g hg => by have := HB0.out g hg; omega))
            have P16 := Lib.hid ((Y1.out.alloc (.cells #[.int .i64 r.c, .int .i64 r.n, .int .i64 r.o, .int .i64 r.x, .int .i64 r.y] 34)).kept q6.grown (fun g hg e => AP.out g e hg))
            have hl6 : (dn ++ [r]).length = dn.length + 1 := by simp
            have i6 := q6.row.sl' five_len hl6
            have I6 := Lib.hid i6
            have HL6 := Lib.hid hl6
            clear i6 hl6 q6 Y0 Y1 RA hR0 hR1 HY sY oY kY dY
            clear caW faW laW cbW fbW lbW ccW fcW lcW cdW fdW ldW
            clear aW bW cW dW
            have aW := aW6
            have bW := bW6
            have cW := cW6
            have dW : w6.heap[w2.heap.size]? = some (.cells #[.slice b0 dn.length dn.length, .slice b1 wt.length wt.length, .int .i64 99] 30 (0, 0)) := dW6
            clear aW6 bW6 cW6 dW6
            have caW := cell_of_block aW
            have faW := unfrozen_of_block aW
            have laW := lt_of_block aW
            have cbW := cell_of_block bW
            have fbW := unfrozen_of_block bW
            have lbW := lt_of_block bW
            have ccW := cell_of_block cW
            have fcW := unfrozen_of_block cW
            have lcW := lt_of_block cW
            have cdW := cell_of_block dW
            have fdW := unfrozen_of_block dW
            have ldW := lt_of_block dW
            go_wp2_with fail
            refine (cloneReq_c b2 (dn.length + 1) c2 (dn ++ [r]) w6 I6.out (by omega)).mono ?_
            rintro e w7 ⟨b3, rfl, r3, k7⟩
            have s7 := k7.size
            have K7 := Lib.hid (below_next K6.out k7)
            have P17 := Lib.hid (P16.out.below k7)
            have ap3 := Lib.hid (r3.apart P16.out (Nat.le_refl _))
            have R3 := Lib.hid r3
            clear caW faW laW cbW fbW lbW ccW fcW lcW cdW fdW ldW
            replace aW := carryB k7 (by omega) aW
            replace bW := carryB k7 (by omega) bW
            replace cW := carryB k7 (by omega) cW
            replace dW := carryB k7 (by omega) dW
            clear k7 r3
            have caW := cell_of_block aW
            have faW := unfrozen_of_block aW
            have laW := lt_of_block aW
            have cbW := cell_of_block bW
            have fbW := unfrozen_of_block bW
            have lbW := lt_of_block bW
            have ccW := cell_of_block cW
            have fcW := unfrozen_of_block cW
            have lcW := lt_of_block cW
            have cdW := cell_of_block dW
            have fdW := unfrozen_of_block dW
            have ldW := lt_of_block dW
            go_wp2_with fail
            refine bodyPost_ret (v := .tuple #[.agg #[.slice b3 (dn.length + 1) (dn.length + 1), .slice b1 wt.length wt.length, .int .i64 99], .bool true]) (by simp [results, Try.results24, go_sem, ccW]) rfl ?_
            have hp := keepA_eq (wt' := wt) (nb := 99) hA hO HIX.out (by have := H6.out; omega) (by rw [if_neg (by omega)]) (by rw [if_pos ⟨by omega, by omega⟩]; rfl)
            rw [hp]
            unfold RetA
            simp only [HL6.out]
            have K7' := K7.out
            refine ⟨b3, b1, rfl, ?_, ?_, fun g u v => ap3.out g v u, (by repeat' (first | with_reducible exact Below.refl _ _ | with_reducible assumption | with_reducible refine Below.alloc ?_ ?_ _ | with_reducible refine Below.drew ?_ | with_reducible refine Below.setCell ?_ ?_ _ | omega | (simp; omega) | (simp; done)))⟩
            · exact ((((R3.out.setOther (by first | omega | (simp <;> omega)) _).setOther (by first | omega | (simp <;> omega)) _).setOther (by first | omega | (simp <;> omega)) _).setOther (by first | omega | (simp <;> omega)) _).low (by omega)
            · exact ((((P17.out.setNe (fun g hg => by have := (HB1.out g hg).2; simp only; omega) _).setOther (by first | omega | (simp <;> omega)) _).setOther (by first | omega | (simp <;> omega)) _).setOther (by first | omega | (simp <;> omega)) _).low (by omega)
          · subst h97
            have hR0 := Lib.hid (PA0.out)
            have hR1 := Lib.hid (PA1.out)
            obtain ⟨Y, hY, sY, dY, oY, kY⟩ := stored1 w5 w2.heap.size 2 (.int .i64 99) dW
            have Y0 := Lib.hid (Row.setNe (p := ⟨w2.heap.size, 2, none⟩) hR0.out (fun g hg => by have := (HB0.out g hg).2; simp only; omega) (.int .i64 99))
            have Y1 := Lib.hid (Row.setNe (p := ⟨w2.heap.size, 2, none⟩) hR1.out (fun g hg => by have := (HB1.out g hg).2; simp only; omega) (.int .i64 99))
            have HY := Lib.hid hY
            clear hY
            have hRA := rowsAt_one (w5.setCell ⟨w2.heap.size, 2, none⟩ (.int .i64 99)) r 34
            rw [show (w5.setCell ⟨w2.heap.size, 2, none⟩ (.int .i64 99)).heap.size = w5.heap.size by simp] at hRA
            have RA := Lib.hid hRA
            clear hRA
            go_wp2_with (at_builtin; refine wpList_append_row rfl _ _ rfl (dn.length + 1) eltReq rfl rfl (Row.alloc Y0.out (.cells #[.int .i64 r.c, .int .i64 r.n, .int .i64 r.o, .int .i64 r.x, .int .i64 r.y] 34)) RA.out rfl rfl rfl (by simp only [maxLen]; omega) (by omega) (by simp <;> omega) ?_)
            intro b2 c2 w6 q6
            have aW6 := (q6.grown.block _ (by first | omega | (simp <;> omega)) (fun e => by have := HB0.out _ e.symm; omega)).trans ((Below.heap_alloc _ _ _ (by first | omega | (simp <;> omega))).trans ((Below.heap_setCell _ _ _ _ (by first | omega | (simp <;> omega))).trans aW))
            have bW6 := (q6.grown.block _ (by first | omega | (simp <;> omega)) (fun e => by have := HB0.out _ e.symm; omega)).trans ((Below.heap_alloc _ _ _ (by first | omega | (simp <;> omega))).trans ((Below.heap_setCell _ _ _ _ (by first | omega | (simp <;> omega))).trans bW))
            have cW6 := (q6.grown.block _ (by first | omega | (simp <;> omega)) (fun e => by have := HB0.out _ e.symm; omega)).trans ((Below.heap_alloc _ _ _ (by first | omega | (simp <;> omega))).trans ((Below.heap_setCell _ _ _ _ (by first | omega | (simp <;> omega))).trans cW))
            have dW6 := (q6.grown.block _ (by first | omega | (simp <;> omega)) (fun e => by have := HB0.out _ e.symm; omega)).trans ((Below.heap_alloc _ _ _ (by first | omega | (simp <;> omega))).trans (block_setCell (i := 2) dW (.int .i64 99)))
            have s6 := q6.grown.size
            simp only [World.size_alloc, World.size_setCell] at s6
            have K6 := Lib.hid ((Below.alloc (K5.setCell (p := ⟨w2.heap.size, 2, none⟩) (by first | omega | (simp <;> omega)) (.int .i64 99)) (by first | omega | (simp <;> omega)) (.cells #[.int .i64 r.c, .int .i64 r.n, .int .i64 r.o, .int .i64 r.x, .int .i64 r.y] 34)).grown q6.grown (by first | omega | (simp <;> omega)) (fun g hg => by have := HB0.out g hg; omega))
            have P16 := Lib.hid ((Y1.out.alloc (.cells #[.int .i64 r.c, .int .i64 r.n, .int .i64 r.o, .int .i64 r.x, .int .i64 r.y] 34)).kept q6.grown (fun g hg e => AP.out g e hg))
            have hl6 : (dn ++ [r]).length = dn.length + 1 := by simp
            have i6 := q6.row.sl' five_len hl6
            have I6 := Lib.hid i6
            have HL6 := Lib.hid hl6
            clear i6 hl6 q6 Y0 Y1 RA hR0 hR1 HY sY oY kY dY
            clear caW faW laW cbW fbW lbW ccW fcW lcW cdW fdW ldW
            clear aW bW cW dW
            have aW := aW6
            have bW := bW6
            have cW := cW6
            have dW : w6.heap[w2.heap.size]? = some (.cells #[.slice b0 dn.length dn.length, .slice b1 wt.length wt.length, .int .i64 99] 30 (0, 0)) := dW6
            clear aW6 bW6 cW6 dW6
            have caW := cell_of_block aW
            have faW := unfrozen_of_block aW
            have laW := lt_of_block aW
            have cbW := cell_of_block bW
            have fbW := unfrozen_of_block bW
            have lbW := lt_of_block bW
            have ccW := cell_of_block cW
            have fcW := unfrozen_of_block cW
            have lcW := lt_of_block cW
            have cdW := cell_of_block dW
            have fdW := unfrozen_of_block dW
            have ldW := lt_of_block dW
            go_wp2_with fail
            refine (cloneReq_c b2 (dn.length + 1) c2 (dn ++ [r]) w6 I6.out (by omega)).mono ?_
            rintro e w7 ⟨b3, rfl, r3, k7⟩
            have s7 := k7.size
            have K7 := Lib.hid (below_next K6.out k7)
            have P17 := Lib.hid (P16.out.below k7)
            have ap3 := Lib.hid (r3.apart P16.out (Nat.le_refl _))
            have R3 := Lib.hid r3
            clear caW faW laW cbW fbW lbW ccW fcW lcW cdW fdW ldW
            replace aW := carryB k7 (by omega) aW
            replace bW := carryB k7 (by omega) bW
            replace cW := carryB k7 (by omega) cW
            replace dW := carryB k7 (by omega) dW
            clear k7 r3
            have caW := cell_of_block aW
            have faW := unfrozen_of_block aW
            have laW := lt_of_block aW
            have cbW := cell_of_block bW
            have fbW := unfrozen_of_block bW
            have lbW := lt_of_block bW
            have ccW := cell_of_block cW
            have fcW := unfrozen_of_block cW
            have lcW := lt_of_block cW
            have cdW := cell_of_block dW
            have fdW := unfrozen_of_block dW
            have ldW := lt_of_block dW
            go_wp2_with fail
            refine bodyPost_ret (v := .tuple #[.agg #[.slice b3 (dn.length + 1) (dn.length + 1), .slice b1 wt.length wt.length, .int .i64 99], .bool true]) (by simp [results, Try.results24, go_sem, ccW]) rfl ?_
            have hp := keepA_eq (wt' := wt) (nb := 99) hA hO HIX.out (by have := H6.out; omega) (by rw [if_neg (by omega)]) (by rw [if_pos ⟨by omega, by omega⟩]; rfl)
            rw [hp]
            unfold RetA
            simp only [HL6.out]
            have K7' := K7.out
            refine ⟨b3, b1, rfl, ?_, ?_, fun g u v => ap3.out g v u, (by repeat' (first | with_reducible exact Below.refl _ _ | with_reducible assumption | with_reducible refine Below.alloc ?_ ?_ _ | with_reducible refine Below.drew ?_ | with_reducible refine Below.setCell ?_ ?_ _ | omega | (simp; omega) | (simp; done)))⟩
            · exact ((((R3.out.setOther (by first | omega | (simp <;> omega)) _).setOther (by first | omega | (simp <;> omega)) _).setOther (by first | omega | (simp <;> omega)) _).setOther (by first | omega | (simp <;> omega)) _).low (by omega)
            · exact ((((P17.out.setNe (fun g hg => by have := (HB1.out g hg).2; simp only; omega) _).setOther (by first | omega | (simp <;> omega)) _).setOther (by first | omega | (simp <;> omega)) _).setOther (by first | omega | (simp <;> omega)) _).low (by omega)
    · subst hix
      have hx0 : ¬ ((k : Nat) : Int) < 0 := by omega
      have hx1 : (0 : Int) ≤ ((k : Nat) : Int) := by omega
      have hw0' : (0 : Int) < (wt.length : Int) := by omega
      by_cases hk0 : k = 0
      · subst hk0
        have hR0 := Lib.hid (P0.out)
        have hR1 := Lib.hid (P1.out)
        have Y0 := Lib.hid hR0.out
        have Y1 := Lib.hid hR1.out
        have hRA := rowsAt_one w4 r 34
        have RA := Lib.hid hRA
        clear hRA
        go_wp2_with (at_builtin; refine wpList_append_row rfl _ _ rfl (dn.length + 1) eltReq rfl rfl (Row.alloc Y0.out (.cells #[.int .i64 r.c, .int .i64 r.n, .int .i64 r.o, .int .i64 r.x, .int .i64 r.y] 34)) RA.out rfl rfl rfl (by simp only [maxLen]; omega) (by omega) (by simp <;> omega) ?_)
        intro b2 c2 w6 q6
        have aW6 := (q6.grown.block _ (by first | omega | (simp <;> omega)) (fun e => by have := HB0.out _ e.symm; omega)).trans ((Below.heap_alloc _ _ _ (by first | omega | (simp <;> omega))).trans aW)
        have bW6 := (q6.grown.block _ (by first | omega | (simp <;> omega)) (fun e => by have := HB0.out _ e.symm; omega)).trans ((Below.heap_alloc _ _ _ (by first | omega | (simp <;> omega))).trans bW)
        have cW6 := (q6.grown.block _ (by first | omega | (simp <;> omega)) (fun e => by have := HB0.out _ e.symm; omega)).trans ((Below.heap_alloc _ _ _ (by first | omega | (simp <;> omega))).trans cW)
        have dW6 := (q6.grown.block _ (by first | omega | (simp <;> omega)) (fun e => by have := HB0.out _ e.symm; omega)).trans ((Below.heap_alloc _ _ _ (by first | omega | (simp <;> omega))).trans dW)
        have s6 := q6.grown.size
        simp only [World.size_alloc, World.size_setCell] at s6
        have K6 := Lib.hid ((Below.alloc (K4) (by first | omega | (simp <;> omega)) (.cells #[.int .i64 r.c, .int .i64 r.n, .int .i64 r.o, .int .i64 r.x, .int .i64 r.y] 34)).grown q6.grown (by first | omega | (simp <;> omega)) (fun g hg => by have := HB0.out g hg; omega))
        have P16 := Lib.hid ((Y1.out.alloc (.cells #[.int .i64 r.c, .int .i64 r.n, .int .i64 r.o, .int .i64 r.x, .int .i64 r.y] 34)).kept q6.grown (fun g hg e => AP.out g e hg))
        have hl6 : (dn ++ [r]).length = dn.length + 1 := by simp
        have i6 := q6.row.sl' five_len hl6
        have I6 := Lib.hid i6
        have HL6 := Lib.hid hl6
        clear i6 hl6 q6 Y0 Y1 RA hR0 hR1 
        clear caW faW laW cbW fbW lbW ccW fcW lcW cdW fdW ldW
        clear aW bW cW dW
        have aW := aW6
        have bW := bW6
        have cW := cW6
        have dW : w6.heap[w2.heap.size]? = some (.cells #[.slice b0 dn.length dn.length, .slice b1 wt.length wt.length, .int .i64 bk] 30 (0, 0)) := dW6
        clear aW6 bW6 cW6 dW6
        have caW := cell_of_block aW
        have faW := unfrozen_of_block aW
        have laW := lt_of_block aW
        have cbW := cell_of_block bW
        have fbW := unfrozen_of_block bW
        have lbW := lt_of_block bW
        have ccW := cell_of_block cW
        have fcW := unfrozen_of_block cW
        have lcW := lt_of_block cW
        have cdW := cell_of_block dW
        have fdW := unfrozen_of_block dW
        have ldW := lt_of_block dW
        go_wp2_with fail
        refine (cloneReq_c b2 (dn.length + 1) c2 (dn ++ [r]) w6 I6.out (by omega)).mono ?_
        rintro e w7 ⟨b3, rfl, r3, k7⟩
        have s7 := k7.size
        have K7 := Lib.hid (below_next K6.out k7)
        have P17 := Lib.hid (P16.out.below k7)
        have ap3 := Lib.hid (r3.apart P16.out (Nat.le_refl _))
        have R3 := Lib.hid r3
        clear caW faW laW cbW fbW lbW ccW fcW lcW cdW fdW ldW
        replace aW := carryB k7 (by omega) aW
        replace bW := carryB k7 (by omega) bW
        replace cW := carryB k7 (by omega) cW
        replace dW := carryB k7 (by omega) dW
        clear k7 r3
        have caW := cell_of_block aW
        have faW := unfrozen_of_block aW
        have laW := lt_of_block aW
        have cbW := cell_of_block bW
        have fbW := unfrozen_of_block bW
        have lbW := lt_of_block bW
        have ccW := cell_of_block cW
        have fcW := unfrozen_of_block cW
        have lcW := lt_of_block cW
        have cdW := cell_of_block dW
        have fdW := unfrozen_of_block dW
        have ldW := lt_of_block dW
        go_wp2_with fail
        obtain ⟨Z, hZ, sZ, dZ, oZ, kZ⟩ := stored1 w7 w2.heap.size 0 (.slice b3 (dn.length + 1) (dn.length + 1)) dW
        rw [← hZ]
        have P1Z := Lib.hid (show Row Z w1.heap.size 34 b1 wt.length 5 Rq.cs wt by rw [hZ]; exact P17.out.setNe (fun g hg => by have := (HB1.out g hg).2; simp only; omega) _)
        have R3Z := Lib.hid (show Row Z w6.heap.size 34 b3 (dn.length + 1) 5 Rq.cs (dn ++ [r]) by rw [hZ]; exact R3.out.setOther (by simp <;> omega) _)
        replace aW := (oZ _ (by omega)).trans aW
        replace bW := (oZ _ (by omega)).trans bW
        replace cW := (oZ _ (by omega)).trans cW
        replace dW : Z.heap[w2.heap.size]? = some (.cells #[.slice b3 (dn.length + 1) (dn.length + 1), .slice b1 wt.length wt.length, .int .i64 bk] 30 (0, 0)) := dZ
        have KZ := Lib.hid (K7.out.trans (kZ.mono (by omega)))
        clear caW faW laW cbW fbW lbW ccW fcW lcW cdW fdW ldW
        clear hZ oZ kZ dZ
        refine (slDeleteReq_c (i := 0) Z P1Z.out rfl hk (by omega)).mono ?_
        rintro e w8 ⟨rfl, r8, t8⟩
        replace aW := (t8.block _ (by omega) (fun e => by have := HB1.out _ e.symm; omega)).trans aW
        replace bW := (t8.block _ (by omega) (fun e => by have := HB1.out _ e.symm; omega)).trans bW
        replace cW := (t8.block _ (by omega) (fun e => by have := HB1.out _ e.symm; omega)).trans cW
        replace dW := (t8.block _ (by omega) (fun e => by have := HB1.out _ e.symm; omega)).trans dW
        have s8 := t8.size
        have R38 := Lib.hid (R3Z.out.kept t8 (fun g hg e => by have := (R3Z.out.blk hg).1; have := HB1.out g e; omega))
        have K8 := Lib.hid (KZ.out.grown t8 (by omega) (fun g hg => by have := HB1.out g hg; omega))
        have hl8 : (wt.eraseIdx 0).length = wt.length - 1 := by rw [List.length_eraseIdx, if_pos hk]
        have i8 := r8.sl' five_len hl8
        have I8 := Lib.hid i8
        have HL8 := Lib.hid hl8
        clear i8 hl8 r8 t8
        have caW := cell_of_block aW
        have faW := unfrozen_of_block aW
        have laW := lt_of_block aW
        have cbW := cell_of_block bW
        have fbW := unfrozen_of_block bW
        have lbW := lt_of_block bW
        have ccW := cell_of_block cW
        have fcW := unfrozen_of_block cW
        have lcW := lt_of_block cW
        have cdW := cell_of_block dW
        have fdW := unfrozen_of_block dW
        have ldW := lt_of_block dW
        go_wp2_with fail
        refine (cloneReq_c b1 (wt.length - 1) wt.length (wt.eraseIdx 0) w8 I8.out (by omega)).mono ?_
        rintro e w9 ⟨b4, rfl, r4, k9⟩
        have s9 := k9.size
        have K9 := below_next K8.out k9
        have R39 := Lib.hid (R38.out.below k9)
        have ap4 := Lib.hid (r4.apart R38.out (Nat.le_refl _))
        have R4 := Lib.hid r4
        clear caW faW laW cbW fbW lbW ccW fcW lcW cdW fdW ldW
        replace aW := carryB k9 (by omega) aW
        replace bW := carryB k9 (by omega) bW
        replace cW := carryB k9 (by omega) cW
        replace dW := carryB k9 (by omega) dW
        clear k9 r4
        have caW := cell_of_block aW
        have faW := unfrozen_of_block aW
        have laW := lt_of_block aW
        have cbW := cell_of_block bW
        have fbW := unfrozen_of_block bW
        have lbW := lt_of_block bW
        have ccW := cell_of_block cW
        have fcW := unfrozen_of_block cW
        have lcW := lt_of_block cW
        have cdW := cell_of_block dW
        have fdW := unfrozen_of_block dW
        have ldW := lt_of_block dW
        go_wp2_with fail
        refine bodyPost_ret (v := .tuple #[.agg #[.slice b3 (dn.length + 1) (dn.length + 1), .slice b4 (wt.length - 1) (wt.length - 1), .int .i64 bk], .bool true]) (by simp [results, Try.results24, go_sem, ccW]) rfl ?_
        have hp := keepA_eq (wt' := wt.eraseIdx 0) (nb := bk) hA hO HIX.out (by omega) (by rw [if_pos (by omega)]; rfl) (by rw [if_neg (by omega)])
        rw [hp]
        unfold RetA
        simp only [HL6.out, HL8.out]
        refine ⟨b3, b4, rfl, ?_, ?_, ap4.out, (by repeat' (first | with_reducible exact Below.refl _ _ | with_reducible assumption | with_reducible refine Below.alloc ?_ ?_ _ | with_reducible refine Below.drew ?_ | with_reducible refine Below.setCell ?_ ?_ _ | omega | (simp; omega) | (simp; done)))⟩
        · exact ((((R39.out.setOther (by first | omega | (simp <;> omega)) _).setOther (by first | omega | (simp <;> omega)) _).setOther (by first | omega | (simp <;> omega)) _).setOther (by first | omega | (simp <;> omega)) _).low (by omega)
        · exact ((((R4.out.setOther (by first | omega | (simp <;> omega)) _).setOther (by first | omega | (simp <;> omega)) _).setOther (by first | omega | (simp <;> omega)) _).setOther (by first | omega | (simp <;> omega)) _).low (by omega)
      · have hk0' : ¬ ((k : Nat) : Int) = 0 := by omega
        have hwk : IntKind.i64.wrap ((k : Int) + 1) = (k : Int) + 1 := IntWalk.i64_in _ ⟨by omega, by omega⟩
        rcases (show bk ≤ 97 ∨ bk = 98 ∨ bk = 99 by omega) with h97 | h97 | h97
        · skip
          have hR0 := Lib.hid (P0.out)
          have hR1 := Lib.hid (P1.out)
          have hb1' : IntKind.i64.wrap (bk + 1) = bk + 1 := IntWalk.i64_in _ ⟨by omega, by omega⟩
          have hb2' : bk + 1 < 99 := by omega
          have hb3' : ¬ 99 < bk + 1 := by omega
          have hb4' : bk < 98 := by omega
          have hb5' : ¬ 98 < bk := by omega
          obtain ⟨Y, hY, sY, dY, oY, kY⟩ := stored1 w4 w2.heap.size 2 (.int .i64 (bk + 1)) dW
          have Y0 := Lib.hid (Row.setNe (p := ⟨w2.heap.size, 2, none⟩) hR0.out (fun g hg => by have := (HB0.out g hg).2; simp only; omega) (.int .i64 (bk + 1)))
          have Y1 := Lib.hid (Row.setNe (p := ⟨w2.heap.size, 2, none⟩) hR1.out (fun g hg => by have := (HB1.out g hg).2; simp only; omega) (.int .i64 (bk + 1)))
          have HY := Lib.hid hY
          clear hY
          have hRA := rowsAt_one (w4.setCell ⟨w2.heap.size, 2, none⟩ (.int .i64 (bk + 1))) r 34
          rw [show (w4.setCell ⟨w2.heap.size, 2, none⟩ (.int .i64 (bk + 1))).heap.size = w4.heap.size by simp] at hRA
          have RA := Lib.hid hRA
          clear hRA
          go_wp2_with (at_builtin; refine wpList_append_row rfl _ _ rfl (dn.length + 1) eltReq rfl rfl (Row.alloc Y0.out (.cells #[.int .i64 r.c, .int .i64 r.n, .int .i64 r.o, .int .i64 r.x, .int .i64 r.y] 34)) RA.out rfl rfl rfl (by simp only [maxLen]; omega) (by omega) (by simp <;> omega) ?_)
          intro b2 c2 w6 q6
          have aW6 := (q6.grown.block _ (by first | omega | (simp <;> omega)) (fun e => by have := HB0.out _ e.symm; omega)).trans ((Below.heap_alloc _ _ _ (by first | omega | (simp <;> omega))).trans ((Below.heap_setCell _ _ _ _ (by first | omega | (simp <;> omega))).trans aW))
          have bW6 := (q6.grown.block _ (by first | omega | (simp <;> omega)) (fun e => by have := HB0.out _ e.symm; omega)).trans ((Below.heap_alloc _ _ _ (by first | omega | (simp <;> omega))).trans ((Below.heap_setCell _ _ _ _ (by first | omega | (simp <;> omega))).trans bW))
          have cW6 := (q6.grown.block _ (by first | omega | (simp <;> omega)) (fun e => by have := HB0.out _ e.symm; omega)).trans ((Below.heap_alloc _ _ _ (by first | omega | (simp <;> omega))).trans ((Below.heap_setCell _ _ _ _ (by first | omega | (simp <;> omega))).trans cW))
          have dW6 := (q6.grown.block _ (by first | omega | (simp <;> omega)) (fun e => by have := HB0.out _ e.symm; omega)).trans ((Below.heap_alloc _ _ _ (by first | omega | (simp <;> omega))).trans (block_setCell (i := 2) dW (.int .i64 (bk + 1))))
          have s6 := q6.grown.size
          simp only [World.size_alloc, World.size_setCell] at s6
          have K6 := Lib.hid ((Below.alloc (K4.setCell (p := ⟨w2.heap.size, 2, none⟩) (by first | omega | (simp <;> omega)) (.int .i64 (bk + 1))) (by first | omega | (simp <;> omega)) (.cells #[.int .i64 r.c, .int .i64 r.n, .int .i64 r.o, .int .i64 r.x, .int .i64 r.y] 34)).grown q6.grown (by first | omega | (simp <;> omega)) (fun g hg => by have := HB0.out g hg; omega))
          have P16 := Lib.hid ((Y1.out.alloc (.cells #[.int .i64 r.c, .int .i64 r.n, .int .i64 r.o, .int .i64 r.x, .int .i64 r.y] 34)).kept q6.grown (fun g hg e => AP.out g e hg))
          have hl6 : (dn ++ [r]).length = dn.length + 1 := by simp
          have i6 := q6.row.sl' five_len hl6
          have I6 := Lib.hid i6
          have HL6 := Lib.hid hl6
          clear i6 hl6 q6 Y0 Y1 RA hR0 hR1 HY sY oY kY dY
          clear caW faW laW cbW fbW lbW ccW fcW lcW cdW fdW ldW
          clear aW bW cW dW
          have aW := aW6
          have bW := bW6
          have cW := cW6
          have dW : w6.heap[w2.heap.size]? = some (.cells #[.slice b0 dn.length dn.length, .slice b1 wt.length wt.length, .int .i64 (bk + 1)] 30 (0, 0)) := dW6
          clear aW6 bW6 cW6 dW6
          have caW := cell_of_block aW
          have faW := unfrozen_of_block aW
          have laW := lt_of_block aW
          have cbW := cell_of_block bW
          have fbW := unfrozen_of_block bW
          have lbW := lt_of_block bW
          have ccW := cell_of_block cW
          have fcW := unfrozen_of_block cW
          have lcW := lt_of_block cW
          have cdW := cell_of_block dW
          have fdW := unfrozen_of_block dW
          have ldW := lt_of_block dW
          go_wp2_with fail
          refine (cloneReq_c b2 (dn.length + 1) c2 (dn ++ [r]) w6 I6.out (by omega)).mono ?_
          rintro e w7 ⟨b3, rfl, r3, k7⟩
          have s7 := k7.size
          have K7 := Lib.hid (below_next K6.out k7)
          have P17 := Lib.hid (P16.out.below k7)
          have ap3 := Lib.hid (r3.apart P16.out (Nat.le_refl _))
          have R3 := Lib.hid r3
          clear caW faW laW cbW fbW lbW ccW fcW lcW cdW fdW ldW
          replace aW := carryB k7 (by omega) aW
          replace bW := carryB k7 (by omega) bW
          replace cW := carryB k7 (by omega) cW
          replace dW := carryB k7 (by omega) dW
          clear k7 r3
          have caW := cell_of_block aW
          have faW := unfrozen_of_block aW
          have laW := lt_of_block aW
          have cbW := cell_of_block bW
          have fbW := unfrozen_of_block bW
          have lbW := lt_of_block bW
          have ccW := cell_of_block cW
          have fcW := unfrozen_of_block cW
          have lcW := lt_of_block cW
          have cdW := cell_of_block dW
          have fdW := unfrozen_of_block dW
          have ldW := lt_of_block dW
          go_wp2_with fail
          obtain ⟨Z, hZ, sZ, dZ, oZ, kZ⟩ := stored1 w7 w2.heap.size 0 (.slice b3 (dn.length + 1) (dn.length + 1)) dW
          rw [← hZ]
          have P1Z := Lib.hid (show Row Z w1.heap.size 34 b1 wt.length 5 Rq.cs wt by rw [hZ]; exact P17.out.setNe (fun g hg => by have := (HB1.out g hg).2; simp only; omega) _)
          have R3Z := Lib.hid (show Row Z w6.heap.size 34 b3 (dn.length + 1) 5 Rq.cs (dn ++ [r]) by rw [hZ]; exact R3.out.setOther (by simp <;> omega) _)
          replace aW := (oZ _ (by omega)).trans aW
          replace bW := (oZ _ (by omega)).trans bW
          replace cW := (oZ _ (by omega)).trans cW
          replace dW : Z.heap[w2.heap.size]? = some (.cells #[.slice b3 (dn.length + 1) (dn.length + 1), .slice b1 wt.length wt.length, .int .i64 (bk + 1)] 30 (0, 0)) := dZ
          have KZ := Lib.hid (K7.out.trans (kZ.mono (by omega)))
          clear caW faW laW cbW fbW lbW ccW fcW lcW cdW fdW ldW
          clear hZ oZ kZ dZ
          refine (slDeleteReq_c (i := k) Z P1Z.out rfl hk (by omega)).mono ?_
          rintro e w8 ⟨rfl, r8, t8⟩
          replace aW := (t8.block _ (by omega) (fun e => by have := HB1.out _ e.symm; omega)).trans aW
          replace bW := (t8.block _ (by omega) (fun e => by have := HB1.out _ e.symm; omega)).trans bW
          replace cW := (t8.block _ (by omega) (fun e => by have := HB1.out _ e.symm; omega)).trans cW
          replace dW := (t8.block _ (by omega) (fun e => by have := HB1.out _ e.symm; omega)).trans dW
          have s8 := t8.size
          have R38 := Lib.hid (R3Z.out.kept t8 (fun g hg e => by have := (R3Z.out.blk hg).1; have := HB1.out g e; omega))
          have K8 := Lib.hid (KZ.out.grown t8 (by omega) (fun g hg => by have := HB1.out g hg; omega))
          have hl8 : (wt.eraseIdx k).length = wt.length - 1 := by rw [List.length_eraseIdx, if_pos hk]
          have i8 := r8.sl' five_len hl8
          have I8 := Lib.hid i8
          have HL8 := Lib.hid hl8
          clear i8 hl8 r8 t8
          have caW := cell_of_block aW
          have faW := unfrozen_of_block aW
          have laW := lt_of_block aW
          have cbW := cell_of_block bW
          have fbW := unfrozen_of_block bW
          have lbW := lt_of_block bW
          have ccW := cell_of_block cW
          have fcW := unfrozen_of_block cW
          have lcW := lt_of_block cW
          have cdW := cell_of_block dW
          have fdW := unfrozen_of_block dW
          have ldW := lt_of_block dW
          go_wp2_with fail
          refine (cloneReq_c b1 (wt.length - 1) wt.length (wt.eraseIdx k) w8 I8.out (by omega)).mono ?_
          rintro e w9 ⟨b4, rfl, r4, k9⟩
          have s9 := k9.size
          have K9 := below_next K8.out k9
          have R39 := Lib.hid (R38.out.below k9)
          have ap4 := Lib.hid (r4.apart R38.out (Nat.le_refl _))
          have R4 := Lib.hid r4
          clear caW faW laW cbW fbW lbW ccW fcW lcW cdW fdW ldW
          replace aW := carryB k9 (by omega) aW
          replace bW := carryB k9 (by omega) bW
          replace cW := carryB k9 (by omega) cW
          replace dW := carryB k9 (by omega) dW
          clear k9 r4
          have caW := cell_of_block aW
          have faW := unfrozen_of_block aW
          have laW := lt_of_block aW
          have cbW := cell_of_block bW
          have fbW := unfrozen_of_block bW
          have lbW := lt_of_block bW
          have ccW := cell_of_block cW
          have fcW := unfrozen_of_block cW
          have lcW := lt_of_block cW
          have cdW := cell_of_block dW
          have fdW := unfrozen_of_block dW
          have ldW := lt_of_block dW
          go_wp2_with fail
          refine bodyPost_ret (v := .tuple #[.agg #[.slice b3 (dn.length + 1) (dn.length + 1), .slice b4 (wt.length - 1) (wt.length - 1), .int .i64 (bk + 1)], .bool true]) (by simp [results, Try.results24, go_sem, ccW]) rfl ?_
          have hp := keepA_eq (wt' := wt.eraseIdx k) (nb := (bk + 1)) hA hO HIX.out (by omega) (by rw [if_pos (by omega)]; rfl) (by rw [if_pos ⟨by omega, by omega⟩, if_pos (by omega)])
          rw [hp]
          unfold RetA
          simp only [HL6.out, HL8.out]
          refine ⟨b3, b4, rfl, ?_, ?_, ap4.out, (by repeat' (first | with_reducible exact Below.refl _ _ | with_reducible assumption | with_reducible refine Below.alloc ?_ ?_ _ | with_reducible refine Below.drew ?_ | with_reducible refine Below.setCell ?_ ?_ _ | omega | (simp; omega) | (simp; done)))⟩
          · exact ((((R39.out.setOther (by first | omega | (simp <;> omega)) _).setOther (by first | omega | (simp <;> omega)) _).setOther (by first | omega | (simp <;> omega)) _).setOther (by first | omega | (simp <;> omega)) _).low (by omega)
          · exact ((((R4.out.setOther (by first | omega | (simp <;> omega)) _).setOther (by first | omega | (simp <;> omega)) _).setOther (by first | omega | (simp <;> omega)) _).setOther (by first | omega | (simp <;> omega)) _).low (by omega)
        · subst h97
          have hR0 := Lib.hid (P0.out)
          have hR1 := Lib.hid (P1.out)
          obtain ⟨Y, hY, sY, dY, oY, kY⟩ := stored1 w4 w2.heap.size 2 (.int .i64 99) dW
          have Y0 := Lib.hid (Row.setNe (p := ⟨w2.heap.size, 2, none⟩) hR0.out (fun g hg => by have := (HB0.out g hg).2; simp only; omega) (.int .i64 99))
          have Y1 := Lib.hid (Row.setNe (p := ⟨w2.heap.size, 2, none⟩) hR1.out (fun g hg => by have := (HB1.out g hg).2; simp only; omega) (.int .i64 99))
          have HY := Lib.hid hY
          clear hY
          have hRA := rowsAt_one (w4.setCell ⟨w2.heap.size, 2, none⟩ (.int .i64 99)) r 34
          rw [show (w4.setCell ⟨w2.heap.size, 2, none⟩ (.int .i64 99)).heap.size = w4.heap.size by simp] at hRA
          have RA := Lib.hid hRA
          clear hRA
          go_wp2_with (at_builtin; refine wpList_append_row rfl _ _ rfl (dn.length + 1) eltReq rfl rfl (Row.alloc Y0.out (.cells #[.int .i64 r.c, .int .i64 r.n, .int .i64 r.o, .int .i64 r.x, .int .i64 r.y] 34)) RA.out rfl rfl rfl (by simp only [maxLen]; omega) (by omega) (by simp <;> omega) ?_)
          intro b2 c2 w6 q6
          have aW6 := (q6.grown.block _ (by first | omega | (simp <;> omega)) (fun e => by have := HB0.out _ e.symm; omega)).trans ((Below.heap_alloc _ _ _ (by first | omega | (simp <;> omega))).trans ((Below.heap_setCell _ _ _ _ (by first | omega | (simp <;> omega))).trans aW))
          have bW6 := (q6.grown.block _ (by first | omega | (simp <;> omega)) (fun e => by have := HB0.out _ e.symm; omega)).trans ((Below.heap_alloc _ _ _ (by first | omega | (simp <;> omega))).trans ((Below.heap_setCell _ _ _ _ (by first | omega | (simp <;> omega))).trans bW))
          have cW6 := (q6.grown.block _ (by first | omega | (simp <;> omega)) (fun e => by have := HB0.out _ e.symm; omega)).trans ((Below.heap_alloc _ _ _ (by first | omega | (simp <;> omega))).trans ((Below.heap_setCell _ _ _ _ (by first | omega | (simp <;> omega))).trans cW))
          have dW6 := (q6.grown.block _ (by first | omega | (simp <;> omega)) (fun e => by have := HB0.out _ e.symm; omega)).trans ((Below.heap_alloc _ _ _ (by first | omega | (simp <;> omega))).trans (block_setCell (i := 2) dW (.int .i64 99)))
          have s6 := q6.grown.size
          simp only [World.size_alloc, World.size_setCell] at s6
          have K6 := Lib.hid ((Below.alloc (K4.setCell (p := ⟨w2.heap.size, 2, none⟩) (by first | omega | (simp <;> omega)) (.int .i64 99)) (by first | omega | (simp <;> omega)) (.cells #[.int .i64 r.c, .int .i64 r.n, .int .i64 r.o, .int .i64 r.x, .int .i64 r.y] 34)).grown q6.grown (by first | omega | (simp <;> omega)) (fun g hg => by have := HB0.out g hg; omega))
          have P16 := Lib.hid ((Y1.out.alloc (.cells #[.int .i64 r.c, .int .i64 r.n, .int .i64 r.o, .int .i64 r.x, .int .i64 r.y] 34)).kept q6.grown (fun g hg e => AP.out g e hg))
          have hl6 : (dn ++ [r]).length = dn.length + 1 := by simp
          have i6 := q6.row.sl' five_len hl6
          have I6 := Lib.hid i6
          have HL6 := Lib.hid hl6
          clear i6 hl6 q6 Y0 Y1 RA hR0 hR1 HY sY oY kY dY
          clear caW faW laW cbW fbW lbW ccW fcW lcW cdW fdW ldW
          clear aW bW cW dW
          have aW := aW6
          have bW := bW6
          have cW := cW6
          have dW : w6.heap[w2.heap.size]? = some (.cells #[.slice b0 dn.length dn.length, .slice b1 wt.length wt.length, .int .i64 99] 30 (0, 0)) := dW6
          clear aW6 bW6 cW6 dW6
          have caW := cell_of_block aW
          have faW := unfrozen_of_block aW
          have laW := lt_of_block aW
          have cbW := cell_of_block bW
          have fbW := unfrozen_of_block bW
          have lbW := lt_of_block bW
          have ccW := cell_of_block cW
          have fcW := unfrozen_of_block cW
          have lcW := lt_of_block cW
          have cdW := cell_of_block dW
          have fdW := unfrozen_of_block dW
          have ldW := lt_of_block dW
          go_wp2_with fail
          refine (cloneReq_c b2 (dn.length + 1) c2 (dn ++ [r]) w6 I6.out (by omega)).mono ?_
          rintro e w7 ⟨b3, rfl, r3, k7⟩
          have s7 := k7.size
          have K7 := Lib.hid (below_next K6.out k7)
          have P17 := Lib.hid (P16.out.below k7)
          have ap3 := Lib.hid (r3.apart P16.out (Nat.le_refl _))
          have R3 := Lib.hid r3
          clear caW faW laW cbW fbW lbW ccW fcW lcW cdW fdW ldW
          replace aW := carryB k7 (by omega) aW
          replace bW := carryB k7 (by omega) bW
          replace cW := carryB k7 (by omega) cW
          replace dW := carryB k7 (by omega) dW
          clear k7 r3
          have caW := cell_of_block aW
          have faW := unfrozen_of_block aW
          have laW := lt_of_block aW
          have cbW := cell_of_block bW
          have fbW := unfrozen_of_block bW
          have lbW := lt_of_block bW
          have ccW := cell_of_block cW
          have fcW := unfrozen_of_block cW
          have lcW := lt_of_block cW
          have cdW := cell_of_block dW
          have fdW := unfrozen_of_block dW
          have ldW := lt_of_block dW
          go_wp2_with fail
          obtain ⟨Z, hZ, sZ, dZ, oZ, kZ⟩ := stored1 w7 w2.heap.size 0 (.slice b3 (dn.length + 1) (dn.length + 1)) dW
          rw [← hZ]
          have P1Z := Lib.hid (show Row Z w1.heap.size 34 b1 wt.length 5 Rq.cs wt by rw [hZ]; exact P17.out.setNe (fun g hg => by have := (HB1.out g hg).2; simp only; omega) _)
          have R3Z := Lib.hid (show Row Z w6.heap.size 34 b3 (dn.length + 1) 5 Rq.cs (dn ++ [r]) by rw [hZ]; exact R3.out.setOther (by simp <;> omega) _)
          replace aW := (oZ _ (by omega)).trans aW
          replace bW := (oZ _ (by omega)).trans bW
          replace cW := (oZ _ (by omega)).trans cW
          replace dW : Z.heap[w2.heap.size]? = some (.cells #[.slice b3 (dn.length + 1) (dn.length + 1), .slice b1 wt.length wt.length, .int .i64 99] 30 (0, 0)) := dZ
          have KZ := Lib.hid (K7.out.trans (kZ.mono (by omega)))
          clear caW faW laW cbW fbW lbW ccW fcW lcW cdW fdW ldW
          clear hZ oZ kZ dZ
          refine (slDeleteReq_c (i := k) Z P1Z.out rfl hk (by omega)).mono ?_
          rintro e w8 ⟨rfl, r8, t8⟩
          replace aW := (t8.block _ (by omega) (fun e => by have := HB1.out _ e.symm; omega)).trans aW
          replace bW := (t8.block _ (by omega) (fun e => by have := HB1.out _ e.symm; omega)).trans bW
          replace cW := (t8.block _ (by omega) (fun e => by have := HB1.out _ e.symm; omega)).trans cW
          replace dW := (t8.block _ (by omega) (fun e => by have := HB1.out _ e.symm; omega)).trans dW
          have s8 := t8.size
          have R38 := Lib.hid (R3Z.out.kept t8 (fun g hg e => by have := (R3Z.out.blk hg).1; have := HB1.out g e; omega))
          have K8 := Lib.hid (KZ.out.grown t8 (by omega) (fun g hg => by have := HB1.out g hg; omega))
          have hl8 : (wt.eraseIdx k).length = wt.length - 1 := by rw [List.length_eraseIdx, if_pos hk]
          have i8 := r8.sl' five_len hl8
          have I8 := Lib.hid i8
          have HL8 := Lib.hid hl8
          clear i8 hl8 r8 t8
          have caW := cell_of_block aW
          have faW := unfrozen_of_block aW
          have laW := lt_of_block aW
          have cbW := cell_of_block bW
          have fbW := unfrozen_of_block bW
          have lbW := lt_of_block bW
          have ccW := cell_of_block cW
          have fcW := unfrozen_of_block cW
          have lcW := lt_of_block cW
          have cdW := cell_of_block dW
          have fdW := unfrozen_of_block dW
          have ldW := lt_of_block dW
          go_wp2_with fail
          refine (cloneReq_c b1 (wt.length - 1) wt.length (wt.eraseIdx k) w8 I8.out (by omega)).mono ?_
          rintro e w9 ⟨b4, rfl, r4, k9⟩
          have s9 := k9.size
          have K9 := below_next K8.out k9
          have R39 := Lib.hid (R38.out.below k9)
          have ap4 := Lib.hid (r4.apart R38.out (Nat.le_refl _))
          have R4 := Lib.hid r4
          clear caW faW laW cbW fbW lbW ccW fcW lcW cdW fdW ldW
          replace aW := carryB k9 (by omega) aW
          replace bW := carryB k9 (by omega) bW
          replace cW := carryB k9 (by omega) cW
          replace dW := carryB k9 (by omega) dW
          clear k9 r4
          have caW := cell_of_block aW
          have faW := unfrozen_of_block aW
          have laW := lt_of_block aW
          have cbW := cell_of_block bW
          have fbW := unfrozen_of_block bW
          have lbW := lt_of_block bW
          have ccW := cell_of_block cW
          have fcW := unfrozen_of_block cW
          have lcW := lt_of_block cW
          have cdW := cell_of_block dW
          have fdW := unfrozen_of_block dW
          have ldW := lt_of_block dW
          go_wp2_with fail
          refine bodyPost_ret (v := .tuple #[.agg #[.slice b3 (dn.length + 1) (dn.length + 1), .slice b4 (wt.length - 1) (wt.length - 1), .int .i64 99], .bool true]) (by simp [results, Try.results24, go_sem, ccW]) rfl ?_
          have hp := keepA_eq (wt' := wt.eraseIdx k) (nb := 99) hA hO HIX.out (by omega) (by rw [if_pos (by omega)]; rfl) (by rw [if_pos ⟨by omega, by omega⟩]; rfl)
          rw [hp]
          unfold RetA
          simp only [HL6.out, HL8.out]
          refine ⟨b3, b4, rfl, ?_, ?_, ap4.out, (by repeat' (first | with_reducible exact Below.refl _ _ | with_reducible assumption | with_reducible refine Below.alloc ?_ ?_ _ | with_reducible refine Below.drew ?_ | with_reducible refine Below.setCell ?_ ?_ _ | omega | (simp; omega) | (simp; done)))⟩
          · exact ((((R39.out.setOther (by first | omega | (simp <;> omega)) _).setOther (by first | omega | (simp <;> omega)) _).setOther (by first | omega | (simp <;> omega)) _).setOther (by first | omega | (simp <;> omega)) _).low (by omega)
          · exact ((((R4.out.setOther (by first | omega | (simp <;> omega)) _).setOther (by first | omega | (simp <;> omega)) _).setOther (by first | omega | (simp <;> omega)) _).setOther (by first | omega | (simp <;> omega)) _).low (by omega)
        · subst h97
          have hR0 := Lib.hid (P0.out)
          have hR1 := Lib.hid (P1.out)
          obtain ⟨Y, hY, sY, dY, oY, kY⟩ := stored1 w4 w2.heap.size 2 (.int .i64 99) dW
          have Y0 := Lib.hid (Row.setNe (p := ⟨w2.heap.size, 2, none⟩) hR0.out (fun g hg => by have := (HB0.out g hg).2; simp only; omega) (.int .i64 99))
          have Y1 := Lib.hid (Row.setNe (p := ⟨w2.heap.size, 2, none⟩) hR1.out (fun g hg => by have := (HB1.out g hg).2; simp only; omega) (.int .i64 99))
          have HY := Lib.hid hY
          clear hY
          have hRA := rowsAt_one (w4.setCell ⟨w2.heap.size, 2, none⟩ (.int .i64 99)) r 34
          rw [show (w4.setCell ⟨w2.heap.size, 2, none⟩ (.int .i64 99)).heap.size = w4.heap.size by simp] at hRA
          have RA := Lib.hid hRA
          clear hRA
          go_wp2_with (at_builtin; refine wpList_append_row rfl _ _ rfl (dn.length + 1) eltReq rfl rfl (Row.alloc Y0.out (.cells #[.int .i64 r.c, .int .i64 r.n, .int .i64 r.o, .int .i64 r.x, .int .i64 r.y] 34)) RA.out rfl rfl rfl (by simp only [maxLen]; omega) (by omega) (by simp <;> omega) ?_)
          intro b2 c2 w6 q6
          have aW6 := (q6.grown.block _ (by first | omega | (simp <;> omega)) (fun e => by have := HB0.out _ e.symm; omega)).trans ((Below.heap_alloc _ _ _ (by first | omega | (simp <;> omega))).trans ((Below.heap_setCell _ _ _ _ (by first | omega | (simp <;> omega))).trans aW))
          have bW6 := (q6.grown.block _ (by first | omega | (simp <;> omega)) (fun e => by have := HB0.out _ e.symm; omega)).trans ((Below.heap_alloc _ _ _ (by first | omega | (simp <;> omega))).trans ((Below.heap_setCell _ _ _ _ (by first | omega | (simp <;> omega))).trans bW))
          have cW6 := (q6.grown.block _ (by first | omega | (simp <;> omega)) (fun e => by have := HB0.out _ e.symm; omega)).trans ((Below.heap_alloc _ _ _ (by first | omega | (simp <;> omega))).trans ((Below.heap_setCell _ _ _ _ (by first | omega | (simp <;> omega))).trans cW))
          have dW6 := (q6.grown.block _ (by first | omega | (simp <;> omega)) (fun e => by have := HB0.out _ e.symm; omega)).trans ((Below.heap_alloc _ _ _ (by first | omega | (simp <;> omega))).trans (block_setCell (i := 2) dW (.int .i64 99)))
          have s6 := q6.grown.size
          simp only [World.size_alloc, World.size_setCell] at s6
          have K6 := Lib.hid ((Below.alloc (K4.setCell (p := ⟨w2.heap.size, 2, none⟩) (by first | omega | (simp <;> omega)) (.int .i64 99)) (by first | omega | (simp <;> omega)) (.cells #[.int .i64 r.c, .int .i64 r.n, .int .i64 r.o, .int .i64 r.x, .int .i64 r.y] 34)).grown q6.grown (by first | omega | (simp <;> omega)) (fun g hg => by have := HB0.out g hg; omega))
          have P16 := Lib.hid ((Y1.out.alloc (.cells #[.int .i64 r.c, .int .i64 r.n, .int .i64 r.o, .int .i64 r.x, .int .i64 r.y] 34)).kept q6.grown (fun g hg e => AP.out g e hg))
          have hl6 : (dn ++ [r]).length = dn.length + 1 := by simp
          have i6 := q6.row.sl' five_len hl6
          have I6 := Lib.hid i6
          have HL6 := Lib.hid hl6
          clear i6 hl6 q6 Y0 Y1 RA hR0 hR1 HY sY oY kY dY
          clear caW faW laW cbW fbW lbW ccW fcW lcW cdW fdW ldW
          clear aW bW cW dW
          have aW := aW6
          have bW := bW6
          have cW := cW6
          have dW : w6.heap[w2.heap.size]? = some (.cells #[.slice b0 dn.length dn.length, .slice b1 wt.length wt.length, .int .i64 99] 30 (0, 0)) := dW6
          clear aW6 bW6 cW6 dW6
          have caW := cell_of_block aW
          have faW := unfrozen_of_block aW
          have laW := lt_of_block aW
          have cbW := cell_of_block bW
          have fbW := unfrozen_of_block bW
          have lbW := lt_of_block bW
          have ccW := cell_of_block cW
          have fcW := unfrozen_of_block cW
          have lcW := lt_of_block cW
          have cdW := cell_of_block dW
          have fdW := unfrozen_of_block dW
          have ldW := lt_of_block dW
          go_wp2_with fail
          refine (cloneReq_c b2 (dn.length + 1) c2 (dn ++ [r]) w6 I6.out (by omega)).mono ?_
          rintro e w7 ⟨b3, rfl, r3, k7⟩
          have s7 := k7.size
          have K7 := Lib.hid (below_next K6.out k7)
          have P17 := Lib.hid (P16.out.below k7)
          have ap3 := Lib.hid (r3.apart P16.out (Nat.le_refl _))
          have R3 := Lib.hid r3
          clear caW faW laW cbW fbW lbW ccW fcW lcW cdW fdW ldW
          replace aW := carryB k7 (by omega) aW
          replace bW := carryB k7 (by omega) bW
          replace cW := carryB k7 (by omega) cW
          replace dW := carryB k7 (by omega) dW
          clear k7 r3
          have caW := cell_of_block aW
          have faW := unfrozen_of_block aW
          have laW := lt_of_block aW
          have cbW := cell_of_block bW
          have fbW := unfrozen_of_block bW
          have lbW := lt_of_block bW
          have ccW := cell_of_block cW
          have fcW := unfrozen_of_block cW
          have lcW := lt_of_block cW
          have cdW := cell_of_block dW
          have fdW := unfrozen_of_block dW
          have ldW := lt_of_block dW
          go_wp2_with fail
          obtain ⟨Z, hZ, sZ, dZ, oZ, kZ⟩ := stored1 w7 w2.heap.size 0 (.slice b3 (dn.length + 1) (dn.length + 1)) dW
          rw [← hZ]
          have P1Z := Lib.hid (show Row Z w1.heap.size 34 b1 wt.length 5 Rq.cs wt by rw [hZ]; exact P17.out.setNe (fun g hg => by have := (HB1.out g hg).2; simp only; omega) _)
          have R3Z := Lib.hid (show Row Z w6.heap.size 34 b3 (dn.length + 1) 5 Rq.cs (dn ++ [r]) by rw [hZ]; exact R3.out.setOther (by simp <;> omega) _)
          replace aW := (oZ _ (by omega)).trans aW
          replace bW := (oZ _ (by omega)).trans bW
          replace cW := (oZ _ (by omega)).trans cW
          replace dW : Z.heap[w2.heap.size]? = some (.cells #[.slice b3 (dn.length + 1) (dn.length + 1), .slice b1 wt.length wt.length, .int .i64 99] 30 (0, 0)) := dZ
          have KZ := Lib.hid (K7.out.trans (kZ.mono (by omega)))
          clear caW faW laW cbW fbW lbW ccW fcW lcW cdW fdW ldW
          clear hZ oZ kZ dZ
          refine (slDeleteReq_c (i := k) Z P1Z.out rfl hk (by omega)).mono ?_
          rintro e w8 ⟨rfl, r8, t8⟩
          replace aW := (t8.block _ (by omega) (fun e => by have := HB1.out _ e.symm; omega)).trans aW
          replace bW := (t8.block _ (by omega) (fun e => by have := HB1.out _ e.symm; omega)).trans bW
          replace cW := (t8.block _ (by omega) (fun e => by have := HB1.out _ e.symm; omega)).trans cW
          replace dW := (t8.block _ (by omega) (fun e => by have := HB1.out _ e.symm; omega)).trans dW
          have s8 := t8.size
          have R38 := Lib.hid (R3Z.out.kept t8 (fun g hg e => by have := (R3Z.out.blk hg).1; have := HB1.out g e; omega))
          have K8 := Lib.hid (KZ.out.grown t8 (by omega) (fun g hg => by have := HB1.out g hg; omega))
          have hl8 : (wt.eraseIdx k).length = wt.length - 1 := by rw [List.length_eraseIdx, if_pos hk]
          have i8 := r8.sl' five_len hl8
          have I8 := Lib.hid i8
          have HL8 := Lib.hid hl8
          clear i8 hl8 r8 t8
          have caW := cell_of_block aW
          have faW := unfrozen_of_block aW
          have laW := lt_of_block aW
          have cbW := cell_of_block bW
          have fbW := unfrozen_of_block bW
          have lbW := lt_of_block bW
          have ccW := cell_of_block cW
          have fcW := unfrozen_of_block cW
          have lcW := lt_of_block cW
          have cdW := cell_of_block dW
          have fdW := unfrozen_of_block dW
          have ldW := lt_of_block dW
          go_wp2_with fail
          refine (cloneReq_c b1 (wt.length - 1) wt.length (wt.eraseIdx k) w8 I8.out (by omega)).mono ?_
          rintro e w9 ⟨b4, rfl, r4, k9⟩
          have s9 := k9.size
          have K9 := below_next K8.out k9
          have R39 := Lib.hid (R38.out.below k9)
          have ap4 := Lib.hid (r4.apart R38.out (Nat.le_refl _))
          have R4 := Lib.hid r4
          clear caW faW laW cbW fbW lbW ccW fcW lcW cdW fdW ldW
          replace aW := carryB k9 (by omega) aW
          replace bW := carryB k9 (by omega) bW
          replace cW := carryB k9 (by omega) cW
          replace dW := carryB k9 (by omega) dW
          clear k9 r4
          have caW := cell_of_block aW
          have faW := unfrozen_of_block aW
          have laW := lt_of_block aW
          have cbW := cell_of_block bW
          have fbW := unfrozen_of_block bW
          have lbW := lt_of_block bW
          have ccW := cell_of_block cW
          have fcW := unfrozen_of_block cW
          have lcW := lt_of_block cW
          have cdW := cell_of_block dW
          have fdW := unfrozen_of_block dW
          have ldW := lt_of_block dW
          go_wp2_with fail
          refine bodyPost_ret (v := .tuple #[.agg #[.slice b3 (dn.length + 1) (dn.length + 1), .slice b4 (wt.length - 1) (wt.length - 1), .int .i64 99], .bool true]) (by simp [results, Try.results24, go_sem, ccW]) rfl ?_
          have hp := keepA_eq (wt' := wt.eraseIdx k) (nb := 99) hA hO HIX.out (by omega) (by rw [if_pos (by omega)]; rfl) (by rw [if_pos ⟨by omega, by omega⟩]; rfl)
          rw [hp]
          unfold RetA
          simp only [HL6.out, HL8.out]
          refine ⟨b3, b4, rfl, ?_, ?_, ap4.out, (by repeat' (first | with_reducible exact Below.refl _ _ | with_reducible assumption | with_reducible refine Below.alloc ?_ ?_ _ | with_reducible refine Below.drew ?_ | with_reducible refine Below.setCell ?_ ?_ _ | omega | (simp; omega) | (simp; done)))⟩
          · exact ((((R39.out.setOther (by first | omega | (simp <;> omega)) _).setOther (by first | omega | (simp <;> omega)) _).setOther (by first | omega | (simp <;> omega)) _).setOther (by first | omega | (simp <;> omega)) _).low (by omega)
          · exact ((((R4.out.setOther (by first | omega | (simp <;> omega)) _).setOther (by first | omega | (simp <;> omega)) _).setOther (by first | omega | (simp <;> omega)) _).setOther (by first | omega | (simp <;> omega)) _).low (by omega)
end Go.Proofs.Ytofedboeggdkaaa
