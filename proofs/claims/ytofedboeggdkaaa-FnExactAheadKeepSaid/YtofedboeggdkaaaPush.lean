/- Contracts of AheadPush, the program's and the reference's; condition: small sizes. -/
import Derived.Test.YtofedboeggdkaaaCopyI
import Derived.Test.YtofedboeggdkaaaAheadOkW
namespace Go.Proofs.Ytofedboeggdkaaa
open Go.RowKit Go.Joins

/-- AheadPush. -/
def pushA (z : Ah) (r : Rq) : Ah × Bool :=
  if aheadB z then (if okB r.c r.n r.o r.x r.y && !(decide (z.dn.length + z.wt.length = 60)) then (⟨z.dn, z.wt ++ [r], z.bk⟩, true) else (z, false)) else (⟨[], [], 0⟩, false)

theorem pushA_len (z : Ah) (r : Rq) (hs : z.dn.length + z.wt.length ≤ 1048576) : (pushA z r).1.dn.length ≤ 1048576 ∧ (pushA z r).1.wt.length ≤ 1048577 := by
  unfold pushA
  split
  · split
    · exact ⟨by simp only; omega, by simp only [List.length_append, List.length_cons, List.length_nil]; omega⟩
    · exact ⟨by simp only; omega, by simp only; omega⟩
  · exact ⟨by simp, by simp⟩
theorem rowsAt_one (w : World) (r : Rq) (t : TypeId) : RowsAt (w.alloc (.cells #[.int .i64 r.c, .int .i64 r.n, .int .i64 r.o, .int .i64 r.x, .int .i64 r.y] t)) (some ⟨w.heap.size, 0, none⟩) 5 Rq.cs [r] :=
  rows_of_block (t := t) (fr := (0, 0)) five_len (heap_alloc_new w (.cells #[.int .i64 r.c, .int .i64 r.n, .int .i64 r.o, .int .i64 r.x, .int .i64 r.y] t))
/-- A client in rows of its own, without room, and a truth. -/
def RetA (z : Ah) (b : Bool) (w : World) (e : Ending) (w' : World) : Prop :=
  ∃ b0 b1, e = .returned (.tuple #[.agg #[.slice b0 z.dn.length z.dn.length, .slice b1 z.wt.length z.wt.length, .int .i64 z.bk], .bool b]) ∧ Row w' w.heap.size 34 b0 z.dn.length 5 Rq.cs z.dn ∧ Row w' w.heap.size 34 b1 z.wt.length 5 Rq.cs z.wt ∧ (∀ g, rowBlk b0 z.dn.length = some g → rowBlk b1 z.wt.length ≠ some g) ∧ Below w.heap.size w w'

set_option maxRecDepth 100000 in
set_option maxHeartbeats 4000000 in
theorem AheadPush_c (z : Ah) (r : Rq) (a0 a1 : Option Addr) (c0 c1 : Nat) (w : World) (h0 : IsSl w (.slice a0 z.dn.length c0) 5 Rq.cs z.dn) (h1 : IsSl w (.slice a1 z.wt.length c1) 5 Rq.cs z.wt) (hs : z.dn.length + z.wt.length ≤ 1048576) :
    Calls Try.prog 19 #[.agg #[.slice a0 z.dn.length c0, .slice a1 z.wt.length c1, .int .i64 z.bk], .agg #[.int .i64 r.c, .int .i64 r.n, .int .i64 r.o, .int .i64 r.x, .int .i64 r.y]] w (RetA (pushA z r).1 (pushA z r).2 w) := by
  have H0 := Lib.hid h0
  have H1 := Lib.hid h1
  clear h0 h1
  by_cases hA : aheadB z = true
  · go_enter Try.func19, Try.ntmps19
    go_wp2_with fail
    obtain ⟨W, hW, sW, aW, bW, cW, kW⟩ := blocks3 w (.cells #[.slice a0 z.dn.length c0, .slice a1 z.wt.length c1, .int .i64 z.bk] 30) (.cells #[.int .i64 r.c, .int .i64 r.n, .int .i64 r.o, .int .i64 r.x, .int .i64 r.y] 34) (.cells #[.slice none 0 0, .slice none 0 0, .int .i64 0] 30)
    rw [← hW]
    clear hW
    refine (AheadOk_c z _ _ _ _ _ (H0.out.below kW) (H1.out.below kW) hs).mono ?_
    rintro e w1 ⟨rfl, k1⟩
    rw [hA]
    have K1 := below_next kW k1
    have s1 := k1.size
    replace aW := carryB k1 (by omega) aW
    replace bW := carryB k1 (by omega) bW
    replace cW := carryB k1 (by omega) cW
    have caW := cell_of_block aW
    have faW := unfrozen_of_block aW
    have laW := lt_of_block aW
    clear kW k1
    go_wp2_with fail
    refine (copyOfA_c z _ _ _ _ _ _ w1 (H0.out.below K1) (H1.out.below K1) (by omega) (by omega)).mono ?_
    rintro e w2 ⟨b0, b1, rfl, r0, r1, ap, k2⟩
    have K2 := below_next K1 k2
    have R0 := Lib.hid r0
    have R1 := Lib.hid r1
    have AP := Lib.hid ap
    have HB0 := Lib.hid (fun g (hg : rowBlk b0 z.dn.length = some g) => r0.blk hg)
    have HB1 := Lib.hid (fun g (hg : rowBlk b1 z.wt.length = some g) => r1.blk hg)
    have s2 := k2.size
    clear caW faW laW
    replace aW := carryB k2 (by omega) aW
    replace bW := carryB k2 (by omega) bW
    replace cW := carryB k2 (by omega) cW
    clear K1 k2 r0 r1 ap
    have caW := cell_of_block aW
    have faW := unfrozen_of_block aW
    have laW := lt_of_block aW
    have cbW := cell_of_block bW
    have fbW := unfrozen_of_block bW
    have lbW := lt_of_block bW
    have ccW := cell_of_block cW
    have fcW := unfrozen_of_block cW
    have lcW := lt_of_block cW
    go_wp2_with fail
    obtain ⟨X, hX, sX, dW, kX⟩ := blocks1 w2 (.cells #[.slice b0 z.dn.length z.dn.length, .slice b1 z.wt.length z.wt.length, .int .i64 z.bk] 30)
    rw [← hX]
    clear hX
    clear caW faW laW cbW fbW lbW ccW fcW lcW
    refine (ReqOk_c r.c r.n r.o r.x r.y X).mono ?_
    rintro e w3 ⟨rfl, k3⟩
    have s3 := k3.size
    replace aW := carryB kX (by omega) aW
    replace bW := carryB kX (by omega) bW
    replace cW := carryB kX (by omega) cW
    replace aW := carryB k3 (by omega) aW
    replace bW := carryB k3 (by omega) bW
    replace cW := carryB k3 (by omega) cW
    replace dW := carryB k3 (by omega) dW
    have K3 := below_next (below_next K2 kX) k3
    have Q0 := Lib.hid ((R0.out.below kX).below k3)
    have Q1 := Lib.hid ((R1.out.below kX).below k3)
    clear kX k3 K2
    have caW := cell_of_block aW
    have faW := unfrozen_of_block aW
    have laW := lt_of_block aW
    have cbW := cell_of_block bW
    have fbW := unfrozen_of_block bW
    have lbW := lt_of_block bW
    have ccW := cell_of_block cW
    have fcW := unfrozen_of_block cW
    have lcW := lt_of_block cW
    have cdW := cell_of_block dW
    have fdW := unfrozen_of_block dW
    have ldW := lt_of_block dW
    cases hO : okB r.c r.n r.o r.x r.y with
    | false =>
      have hp : pushA z r = (z, false) := by unfold pushA; rw [if_pos hA, hO]; rfl
      go_wp2_with fail
      refine bodyPost_ret (v := .tuple #[.agg #[.slice b0 z.dn.length z.dn.length, .slice b1 z.wt.length z.wt.length, .int .i64 z.bk], .bool false]) (by simp [results, Try.results19, go_sem, ccW]) rfl ?_
      rw [hp]
      exact ⟨b0, b1, rfl, (((Q0.out.setOther (by simp <;> omega) _).setOther (by simp <;> omega) _).setOther (by simp <;> omega) _).low (by omega), (((Q1.out.setOther (by simp <;> omega) _).setOther (by simp <;> omega) _).setOther (by simp <;> omega) _).low (by omega), AP.out, (by repeat' (first | with_reducible exact Below.refl _ _ | with_reducible assumption | with_reducible refine Below.alloc ?_ ?_ _ | with_reducible refine Below.drew ?_ | with_reducible refine Below.setCell ?_ ?_ _ | omega | (simp; omega) | (simp; done)))⟩
    | true =>
      have hsz := hs
      have hlb0 := H0.out.bounds
      have hlb1 := H1.out.bounds
      have hl0 := Lib.hid (And.intro hlb0.2.1 hlb0.2.2.1)
      have hl1 := Lib.hid (And.intro hlb1.2.1 hlb1.2.2.1)
      clear hlb0 hlb1
      go_wp2_with fail
      refine (size_c a0 a1 _ _ c0 c1 z.bk w3 hl0.out.1 hl0.out.2 hl1.out.1 hl1.out.2 (by omega)).mono ?_
      rintro e w4 ⟨rfl, k4⟩
      have s4 := k4.size
      clear caW faW laW cbW fbW lbW ccW fcW lcW cdW fdW ldW
      replace aW := carryB k4 (by omega) aW
      replace bW := carryB k4 (by omega) bW
      replace cW := carryB k4 (by omega) cW
      replace dW := carryB k4 (by omega) dW
      have K4 := below_next K3 k4
      have P0 := Lib.hid (Q0.out.below k4)
      have P1 := Lib.hid (Q1.out.below k4)
      clear k4 K3 Q0 Q1 R0 R1
      have caW := cell_of_block aW
      have faW := unfrozen_of_block aW
      have laW := lt_of_block aW
      have cbW := cell_of_block bW
      have fbW := unfrozen_of_block bW
      have lbW := lt_of_block bW
      have ccW := cell_of_block cW
      have fcW := unfrozen_of_block cW
      have lcW := lt_of_block cW
      have cdW := cell_of_block dW
      have fdW := unfrozen_of_block dW
      have ldW := lt_of_block dW
      by_cases h60 : z.dn.length + z.wt.length = 60
      · have hp : pushA z r = (z, false) := by unfold pushA; rw [if_pos hA, hO]; simp [h60]
        have h60' : ((z.dn.length : Int) + (z.wt.length : Int)) = 60 := by omega
        rw [h60']
        go_wp2_with fail
        refine bodyPost_ret (v := .tuple #[.agg #[.slice b0 z.dn.length z.dn.length, .slice b1 z.wt.length z.wt.length, .int .i64 z.bk], .bool false]) (by simp [results, Try.results19, go_sem, ccW]) rfl ?_
        rw [hp]
        exact ⟨b0, b1, rfl, (((P0.out.setOther (by simp <;> omega) _).setOther (by simp <;> omega) _).setOther (by simp <;> omega) _).low (by omega), (((P1.out.setOther (by simp <;> omega) _).setOther (by simp <;> omega) _).setOther (by simp <;> omega) _).low (by omega), AP.out, (by repeat' (first | with_reducible exact Below.refl _ _ | with_reducible assumption | with_reducible refine Below.alloc ?_ ?_ _ | with_reducible refine Below.drew ?_ | with_reducible refine Below.setCell ?_ ?_ _ | omega | (simp; omega) | (simp; done)))⟩
      · have hp : pushA z r = (⟨z.dn, z.wt ++ [r], z.bk⟩, true) := by unfold pushA; rw [if_pos hA, hO]; simp [h60]
        have h60' : ¬ ((z.dn.length : Int) + (z.wt.length : Int)) = 60 := by omega
        have P11 := Lib.hid (P1.out.alloc (.cells #[.int .i64 r.c, .int .i64 r.n, .int .i64 r.o, .int .i64 r.x, .int .i64 r.y] 34))
        go_wp2_with (at_builtin; refine wpList_append_row rfl _ _ rfl (z.wt.length + 1) eltReq rfl rfl P11.out (rowsAt_one _ r _) rfl rfl rfl (by simp only [maxLen]; omega) (by omega) (by simp <;> omega) ?_)
        intro b2 c2 w5 q5
        have s5 := q5.grown.size
        rw [World.size_alloc] at s5
        clear caW faW laW cbW fbW lbW ccW fcW lcW cdW fdW ldW
        replace aW := (q5.grown.block _ (by simp <;> omega) (fun e => by have := HB1.out _ e.symm; omega)).trans ((Below.heap_alloc _ _ _ (by omega)).trans aW)
        replace bW := (q5.grown.block _ (by simp <;> omega) (fun e => by have := HB1.out _ e.symm; omega)).trans ((Below.heap_alloc _ _ _ (by omega)).trans bW)
        replace cW := (q5.grown.block _ (by simp <;> omega) (fun e => by have := HB1.out _ e.symm; omega)).trans ((Below.heap_alloc _ _ _ (by omega)).trans cW)
        replace dW := (q5.grown.block _ (by simp <;> omega) (fun e => by have := HB1.out _ e.symm; omega)).trans ((Below.heap_alloc _ _ _ (by omega)).trans dW)
        have K5 := (K4.alloc K4.size (.cells #[.int .i64 r.c, .int .i64 r.n, .int .i64 r.o, .int .i64 r.x, .int .i64 r.y] 34)).grown q5.grown (by simp <;> omega) (fun g hg => by have := HB1.out g hg; omega)
        have P05 := Lib.hid ((P0.out.alloc (.cells #[.int .i64 r.c, .int .i64 r.n, .int .i64 r.o, .int .i64 r.x, .int .i64 r.y] 34)).kept q5.grown (fun g hg => AP.out g hg))
        have hl5 : (z.wt ++ [r]).length = z.wt.length + 1 := by simp
        have i5 := q5.row.sl five_len
        rw [hl5] at i5
        have I5 := Lib.hid i5
        have HL5 := Lib.hid hl5
        clear i5 hl5 q5 P0 P1 P11
        have caW := cell_of_block aW
        have faW := unfrozen_of_block aW
        have laW := lt_of_block aW
        have cbW := cell_of_block bW
        have fbW := unfrozen_of_block bW
        have lbW := lt_of_block bW
        have ccW := cell_of_block cW
        have fcW := unfrozen_of_block cW
        have lcW := lt_of_block cW
        have cdW := cell_of_block dW
        have fdW := unfrozen_of_block dW
        have ldW := lt_of_block dW
        go_wp2_with fail
        refine (cloneReq_c b2 (z.wt.length + 1) c2 (z.wt ++ [r]) w5 I5.out (by omega)).mono ?_
        rintro e w6 ⟨b3, rfl, r3, k6⟩
        have s6 := k6.size
        have K6 := below_next K5 k6
        have P06 := Lib.hid (P05.out.below k6)
        have ap3 := Lib.hid (r3.apart P05.out (Nat.le_refl _))
        have R3 := Lib.hid r3
        clear caW faW laW cbW fbW lbW ccW fcW lcW cdW fdW ldW
        replace aW := carryB k6 (by omega) aW
        replace bW := carryB k6 (by omega) bW
        replace cW := carryB k6 (by omega) cW
        replace dW := carryB k6 (by omega) dW
        clear k6 r3 K5
        have caW := cell_of_block aW
        have faW := unfrozen_of_block aW
        have laW := lt_of_block aW
        have cbW := cell_of_block bW
        have fbW := unfrozen_of_block bW
        have lbW := lt_of_block bW
        have ccW := cell_of_block cW
        have fcW := unfrozen_of_block cW
        have lcW := lt_of_block cW
        have cdW := cell_of_block dW
        have fdW := unfrozen_of_block dW
        have ldW := lt_of_block dW
        have ne_ : ¬ (w.heap.size + 1 + 1 = w2.heap.size) := by omega
        have ne_ : ¬ (w2.heap.size = w.heap.size + 1 + 1) := by omega
        go_wp2_with fail
        refine bodyPost_ret (v := .tuple #[.agg #[.slice b0 z.dn.length z.dn.length, .slice b3 (z.wt.length + 1) (z.wt.length + 1), .int .i64 z.bk], .bool true]) (by simp [results, Try.results19, go_sem, ccW]) rfl ?_
        rw [hp]
        unfold RetA
        simp only [HL5.out]
        refine ⟨b0, b3, rfl, ?_, ?_, ap3.out, (by repeat' (first | with_reducible exact Below.refl _ _ | with_reducible assumption | with_reducible refine Below.alloc ?_ ?_ _ | with_reducible refine Below.drew ?_ | with_reducible refine Below.setCell ?_ ?_ _ | omega | (simp; omega) | (simp; done)))⟩
        · exact ((((P06.out.setNe (fun g hg => by have := (HB0.out g hg).2; simp only; omega) _).setOther (by simp <;> omega) _).setOther (by simp <;> omega) _).setOther (by simp <;> omega) _).low (by omega)
        · exact ((((R3.out.setOther (by simp <;> omega) _).setOther (by simp <;> omega) _).setOther (by simp <;> omega) _).setOther (by simp <;> omega) _).low (by omega)
  · have hA' : aheadB z = false := by simpa using hA
    have hp : pushA z r = (⟨[], [], 0⟩, false) := by unfold pushA; rw [if_neg hA]
    rw [hp]
    go_enter Try.func19, Try.ntmps19
    go_wp2_with fail
    obtain ⟨W, hW, sW, aW, bW, cW, kW⟩ := blocks3 w (.cells #[.slice a0 z.dn.length c0, .slice a1 z.wt.length c1, .int .i64 z.bk] 30) (.cells #[.int .i64 r.c, .int .i64 r.n, .int .i64 r.o, .int .i64 r.x, .int .i64 r.y] 34) (.cells #[.slice none 0 0, .slice none 0 0, .int .i64 0] 30)
    rw [← hW]
    clear hW
    refine (AheadOk_c z _ _ _ _ _ (H0.out.below kW) (H1.out.below kW) hs).mono ?_
    rintro e w1 ⟨rfl, k1⟩
    rw [hA']
    have K1 := below_next kW k1
    have cz := cell_of_block (carryB k1 (by omega) cW)
    have fz := unfrozen_of_block (carryB k1 (by omega) cW)
    go_wp2_with fail
    refine bodyPost_ret (v := .tuple #[.agg #[.slice none 0 0, .slice none 0 0, .int .i64 0], .bool false]) (by simp [results, Try.results19, go_sem, cz]) rfl ?_
    exact ⟨none, none, rfl, Row.nil _ _ _ _ _ _, Row.nil _ _ _ _ _ _, fun g hg => by simp [rowBlk] at hg, (by repeat' (first | with_reducible exact Below.refl _ _ | with_reducible assumption | with_reducible refine Below.alloc ?_ ?_ _ | with_reducible refine Below.drew ?_ | with_reducible refine Below.setCell ?_ ?_ _ | omega | (simp; omega) | (simp; done)))⟩
end Go.Proofs.Ytofedboeggdkaaa
