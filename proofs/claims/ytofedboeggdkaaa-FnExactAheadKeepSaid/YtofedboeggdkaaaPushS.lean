/- Contract of the reference's AheadPush; condition: small sizes. -/
import Derived.Test.YtofedboeggdkaaaPush
namespace Go.Proofs.Ytofedboeggdkaaa
open Go.RowKit Go.Joins

/-- A client's lists, wherever they lie, and a truth. -/
def RetAS (z : Ah) (b : Bool) (w : World) (e : Ending) (w' : World) : Prop :=
  ∃ b0 d0 b1 d1, e = .returned (.tuple #[.agg #[.slice b0 z.dn.length d0, .slice b1 z.wt.length d1, .int .i64 z.bk], .bool b]) ∧ Row w' w.heap.size 34 b0 d0 5 Rq.cs z.dn ∧ Row w' w.heap.size 34 b1 d1 5 Rq.cs z.wt ∧ Below w.heap.size w w'
theorem IsSl.nil {α : Type} (w : World) (k : Nat) (R : α → List Value) : IsSl w (.slice none 0 0) k R [] := ⟨none, 0, rfl, Nat.le_refl _, Nat.zero_le _, fun i hi => absurd hi (Nat.not_lt_zero i)⟩
theorem Row.sl' {α : Type} {w : World} {B e cap k n : Nat} {a : Option Addr} {R : α → List Value} {zs : List α} (h : Row w B e a cap k R zs) (hR : ∀ z, (R z).length = k) (hn : zs.length = n) : IsSl w (.slice a n cap) k R zs := hn ▸ h.sl hR

set_option maxRecDepth 100000 in
set_option maxHeartbeats 4000000 in
theorem sAheadPush_c (z : Ah) (r : Rq) (a0 a1 : Option Addr) (c0 c1 : Nat) (w : World) (h0 : IsSl w (.slice a0 z.dn.length c0) 5 Rq.cs z.dn) (h1 : IsSl w (.slice a1 z.wt.length c1) 5 Rq.cs z.wt) (hs : z.dn.length + z.wt.length ≤ 1048576) :
    Calls Try.prog 16 #[.agg #[.slice a0 z.dn.length c0, .slice a1 z.wt.length c1, .int .i64 z.bk], .agg #[.int .i64 r.c, .int .i64 r.n, .int .i64 r.o, .int .i64 r.x, .int .i64 r.y]] w (RetAS (pushA z r).1 (pushA z r).2 w) := by
  have H0 := Lib.hid h0
  have H1 := Lib.hid h1
  clear h0 h1
  by_cases hA : aheadB z = true
  · have h60s : z.dn.length + z.wt.length ≤ 60 := by
      unfold aheadB at hA
      simp only [Bool.and_eq_true, decide_eq_true_eq] at hA
      exact hA.1.2
    go_enter Try.func16, Try.ntmps16
    go_wp2_with fail
    obtain ⟨W, hW, sW, aW, bW, cW, kW⟩ := blocks3 w (.cells #[.slice a0 z.dn.length c0, .slice a1 z.wt.length c1, .int .i64 z.bk] 30) (.cells #[.int .i64 r.c, .int .i64 r.n, .int .i64 r.o, .int .i64 r.x, .int .i64 r.y] 34) (.cells #[.slice none 0 0, .slice none 0 0, .int .i64 0] 30)
    rw [← hW]
    clear hW
    refine (l8Ok_c z _ _ _ _ _ (H0.out.below kW) (H1.out.below kW) hs).mono ?_
    rintro e w1 ⟨rfl, k1⟩
    rw [hA]
    have K1 := below_next kW k1
    have s1 := k1.size
    replace aW := carryB k1 (by omega) aW
    replace bW := carryB k1 (by omega) bW
    replace cW := carryB k1 (by omega) cW
    have caW := cell_of_block aW
    have faW := unfrozen_of_block aW
    have laW := lt_of_block aW
    clear kW k1
    go_wp2_with fail
    refine (l8Copy_c z _ _ _ _ _ _ w1 (H0.out.below K1) (H1.out.below K1) (by omega) (by omega)).mono ?_
    rintro e w2 ⟨v, rfl, ⟨b0, d0, b1, d1, rfl, r0, r1, ap⟩, k2⟩
    have K2 := below_next K1 k2
    have R0 := Lib.hid r0
    have R1 := Lib.hid r1
    have AP := Lib.hid ap
    have HB0 := Lib.hid (fun g (hg : rowBlk b0 d0 = some g) => r0.blk hg)
    have HB1 := Lib.hid (fun g (hg : rowBlk b1 d1 = some g) => r1.blk hg)
    have s2 := k2.size
    clear caW faW laW
    replace aW := carryB k2 (by omega) aW
    replace bW := carryB k2 (by omega) bW
    replace cW := carryB k2 (by omega) cW
    clear K1 k2 r0 r1 ap
    have caW := cell_of_block aW
    have faW := unfrozen_of_block aW
    have laW := lt_of_block aW
    have cbW := cell_of_block bW
    have fbW := unfrozen_of_block bW
    have lbW := lt_of_block bW
    have ccW := cell_of_block cW
    have fcW := unfrozen_of_block cW
    have lcW := lt_of_block cW
    go_wp2_with fail
    obtain ⟨X, hX, sX, dW, kX⟩ := blocks1 w2 (.cells #[.slice b0 z.dn.length d0, .slice b1 z.wt.length d1, .int .i64 z.bk] 30)
    rw [← hX]
    clear hX
    clear caW faW laW cbW fbW lbW ccW fcW lcW
    refine (l1Ok_c r.c r.n r.o r.x r.y X).mono ?_
    rintro e w3 ⟨rfl, k3⟩
    have s3 := k3.size
    replace aW := carryB kX (by omega) aW
    replace bW := carryB kX (by omega) bW
    replace cW := carryB kX (by omega) cW
    replace aW := carryB k3 (by omega) aW
    replace bW := carryB k3 (by omega) bW
    replace cW := carryB k3 (by omega) cW
    replace dW := carryB k3 (by omega) dW
    have K3 := below_next (below_next K2 kX) k3
    have Q0 := Lib.hid ((R0.out.below kX).below k3)
    have Q1 := Lib.hid ((R1.out.below kX).below k3)
    clear kX k3 K2
    have caW := cell_of_block aW
    have faW := unfrozen_of_block aW
    have laW := lt_of_block aW
    have cbW := cell_of_block bW
    have fbW := unfrozen_of_block bW
    have lbW := lt_of_block bW
    have ccW := cell_of_block cW
    have fcW := unfrozen_of_block cW
    have lcW := lt_of_block cW
    have cdW := cell_of_block dW
    have fdW := unfrozen_of_block dW
    have ldW := lt_of_block dW
    have ne_ : ¬ (w.heap.size + 1 + 1 = w2.heap.size) := by omega
    have ne_ : ¬ (w2.heap.size = w.heap.size + 1 + 1) := by omega
    cases hO : okB r.c r.n r.o r.x r.y with
    | false =>
      have hp : pushA z r = (z, false) := by unfold pushA; rw [if_pos hA, hO]; rfl
      go_wp2_with fail
      refine bodyPost_ret (v := .tuple #[.agg #[.slice b0 z.dn.length d0, .slice b1 z.wt.length d1, .int .i64 z.bk], .bool false]) (by simp [results, Try.results16, go_sem, ccW]) rfl ?_
      rw [hp]
      exact ⟨b0, d0, b1, d1, rfl, (((Q0.out.setOther (by simp <;> omega) _).setOther (by simp <;> omega) _).setOther (by simp <;> omega) _).low (by omega), (((Q1.out.setOther (by simp <;> omega) _).setOther (by simp <;> omega) _).setOther (by simp <;> omega) _).low (by omega), (by repeat' (first | with_reducible exact Below.refl _ _ | with_reducible assumption | with_reducible refine Below.alloc ?_ ?_ _ | with_reducible refine Below.drew ?_ | with_reducible refine Below.setCell ?_ ?_ _ | omega | (simp; omega) | (simp; done)))⟩
    | true =>
      by_cases h60 : z.dn.length + z.wt.length = 60
      · have hp : pushA z r = (z, false) := by unfold pushA; rw [if_pos hA, hO]; simp [h60]
        have h60' : (60 : Int) ≤ ((z.dn.length : Int) + (z.wt.length : Int)) := by omega
        go_wp2_with fail
        refine bodyPost_ret (v := .tuple #[.agg #[.slice b0 z.dn.length d0, .slice b1 z.wt.length d1, .int .i64 z.bk], .bool false]) (by simp [results, Try.results16, go_sem, ccW]) rfl ?_
        rw [hp]
        exact ⟨b0, d0, b1, d1, rfl, (((Q0.out.setOther (by simp <;> omega) _).setOther (by simp <;> omega) _).setOther (by simp <;> omega) _).low (by omega), (((Q1.out.setOther (by simp <;> omega) _).setOther (by simp <;> omega) _).setOther (by simp <;> omega) _).low (by omega), (by repeat' (first | with_reducible exact Below.refl _ _ | with_reducible assumption | with_reducible refine Below.alloc ?_ ?_ _ | with_reducible refine Below.drew ?_ | with_reducible refine Below.setCell ?_ ?_ _ | omega | (simp; omega) | (simp; done)))⟩
      · have hp : pushA z r = (⟨z.dn, z.wt ++ [r], z.bk⟩, true) := by unfold pushA; rw [if_pos hA, hO]; simp [h60]
        have h60' : ¬ (60 : Int) ≤ ((z.dn.length : Int) + (z.wt.length : Int)) := by omega
        have P11 := Lib.hid (Q1.out.alloc (.cells #[.int .i64 r.c, .int .i64 r.n, .int .i64 r.o, .int .i64 r.x, .int .i64 r.y] 34))
        go_wp2_with (at_builtin; refine wpList_append_row rfl _ _ rfl (z.wt.length + 1) eltReq rfl rfl P11.out (rowsAt_one _ r _) rfl rfl rfl (by simp only [maxLen]; omega) (by omega) (by simp <;> omega) ?_)
        intro b2 d2 w5 q5
        have s5 := q5.grown.size
        rw [World.size_alloc] at s5
        clear caW faW laW cbW fbW lbW ccW fcW lcW cdW fdW ldW
        replace aW := (q5.grown.block _ (by simp <;> omega) (fun e => by have := HB1.out _ e.symm; omega)).trans ((Below.heap_alloc _ _ _ (by omega)).trans aW)
        replace bW := (q5.grown.block _ (by simp <;> omega) (fun e => by have := HB1.out _ e.symm; omega)).trans ((Below.heap_alloc _ _ _ (by omega)).trans bW)
        replace cW := (q5.grown.block _ (by simp <;> omega) (fun e => by have := HB1.out _ e.symm; omega)).trans ((Below.heap_alloc _ _ _ (by omega)).trans cW)
        replace dW := (q5.grown.block _ (by simp <;> omega) (fun e => by have := HB1.out _ e.symm; omega)).trans ((Below.heap_alloc _ _ _ (by omega)).trans dW)
        have K5 := (K3.alloc K3.size (.cells #[.int .i64 r.c, .int .i64 r.n, .int .i64 r.o, .int .i64 r.x, .int .i64 r.y] 34)).grown q5.grown (by simp <;> omega) (fun g hg => by have := HB1.out g hg; omega)
        have P05 := Lib.hid ((Q0.out.alloc (.cells #[.int .i64 r.c, .int .i64 r.n, .int .i64 r.o, .int .i64 r.x, .int .i64 r.y] 34)).kept q5.grown (fun g hg => AP.out g hg))
        have hb2 : ∀ g, rowBlk b2 d2 = some g → g ≠ w2.heap.size ∧ w1.heap.size ≤ g := fun g hg => by
          have hlow := (q5.row.blk hg).1
          refine ⟨?_, hlow⟩
          rcases q5.blk with q | q
          · have := (HB1.out g (q ▸ hg)).2; omega
          · rw [hg] at q; injection q with q; rw [World.size_alloc] at q; omega
        have HB2 := Lib.hid hb2
        have hl5 : (z.wt ++ [r]).length = z.wt.length + 1 := by simp
        have R5 := Lib.hid q5.row
        have HL5 := Lib.hid hl5
        clear hl5 q5 Q0 Q1 P11 hb2
        have caW := cell_of_block aW
        have faW := unfrozen_of_block aW
        have laW := lt_of_block aW
        have cbW := cell_of_block bW
        have fbW := unfrozen_of_block bW
        have lbW := lt_of_block bW
        have ccW := cell_of_block cW
        have fcW := unfrozen_of_block cW
        have lcW := lt_of_block cW
        have cdW := cell_of_block dW
        have fdW := unfrozen_of_block dW
        have ldW := lt_of_block dW
        go_wp2_with fail
        refine bodyPost_ret (v := .tuple #[.agg #[.slice b0 z.dn.length d0, .slice b2 (z.wt.length + 1) d2, .int .i64 z.bk], .bool true]) (by simp [results, Try.results16, go_sem, ccW]) rfl ?_
        rw [hp]
        unfold RetAS
        simp only [HL5.out]
        refine ⟨b0, d0, b2, d2, rfl, ?_, ?_, (by repeat' (first | with_reducible exact Below.refl _ _ | with_reducible assumption | with_reducible refine Below.alloc ?_ ?_ _ | with_reducible refine Below.drew ?_ | with_reducible refine Below.setCell ?_ ?_ _ | omega | (simp; omega) | (simp; done)))⟩
        · exact ((((P05.out.setNe (fun g hg => by have := (HB0.out g hg).2; simp only; omega) _).setOther (by simp <;> omega) _).setOther (by simp <;> omega) _).setOther (by simp <;> omega) _).low (by omega)
        · exact ((((R5.out.setNe (fun g hg => by have := (HB2.out g hg).1; simp only; omega) _).setOther (by simp <;> omega) _).setOther (by simp <;> omega) _).setOther (by simp <;> omega) _).low (by omega)
  · have hA' : aheadB z = false := by simpa using hA
    have hp : pushA z r = (⟨[], [], 0⟩, false) := by unfold pushA; rw [if_neg hA]
    rw [hp]
    go_enter Try.func16, Try.ntmps16
    go_wp2_with fail
    obtain ⟨W, hW, sW, aW, bW, cW, kW⟩ := blocks3 w (.cells #[.slice a0 z.dn.length c0, .slice a1 z.wt.length c1, .int .i64 z.bk] 30) (.cells #[.int .i64 r.c, .int .i64 r.n, .int .i64 r.o, .int .i64 r.x, .int .i64 r.y] 34) (.cells #[.slice none 0 0, .slice none 0 0, .int .i64 0] 30)
    rw [← hW]
    clear hW
    refine (l8Ok_c z _ _ _ _ _ (H0.out.below kW) (H1.out.below kW) hs).mono ?_
    rintro e w1 ⟨rfl, k1⟩
    rw [hA']
    have K1 := below_next kW k1
    have cz := cell_of_block (carryB k1 (by omega) cW)
    have fz := unfrozen_of_block (carryB k1 (by omega) cW)
    go_wp2_with fail
    refine bodyPost_ret (v := .tuple #[.agg #[.slice none 0 0, .slice none 0 0, .int .i64 0], .bool false]) (by simp [results, Try.results16, go_sem, cz]) rfl ?_
    exact ⟨none, 0, none, 0, rfl, Row.nil _ _ _ _ _ _, Row.nil _ _ _ _ _ _, (by repeat' (first | with_reducible exact Below.refl _ _ | with_reducible assumption | with_reducible refine Below.alloc ?_ ?_ _ | with_reducible refine Below.drew ?_ | with_reducible refine Below.setCell ?_ ?_ _ | omega | (simp; omega) | (simp; done)))⟩
end Go.Proofs.Ytofedboeggdkaaa
