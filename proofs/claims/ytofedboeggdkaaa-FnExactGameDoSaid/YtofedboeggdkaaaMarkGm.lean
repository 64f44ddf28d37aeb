/- Contracts of markGame, heldGame over rows of the program's own; condition: small numbers. -/
import Derived.Test.YtofedboeggdkaaaMarkA
namespace Go.Proofs.Ytofedboeggdkaaa
open Go.RowKit Go.Joins

theorem Marks.kept {w w' : World} {a : Option Addr} {n k : Nat} {m : Int} {row : Option Nat} (h : Marks w a n k m) (g : w.grownBy w' row) (hs : w'.heap.size = w.heap.size) (hne : ∀ b, rowBlk a n = some b → row ≠ some b) : Marks w' a n k m := fun b hb => by
  obtain ⟨h1, h2⟩ := h b hb
  refine ⟨by omega, fun j hj => ?_⟩
  rw [World.cell?_of_block (w := w) (a := ⟨b, j, none⟩) (g.block b h1 (fun e => hne b hb e.symm))]
  exact h2 j hj
theorem MarkedRow.marks {a : Option Addr} {n k : Nat} {m : Int} {w w' : World} (h : MarkedRow a n k m w w') (hl : ∀ g, rowBlk a n = some g → g < w.heap.size) : Marks w' a n k m := fun g hg => ⟨by rw [h.size]; exact hl g hg, h.cells g hg⟩

set_option maxHeartbeats 2000000 in
theorem markGame_r {B0 B1 B2 n0 n1 n2 : Nat} {a0 a1 a2 : Option Addr} {zs : List Rq} {fs ls : List Int} (m : Int) (w : World) (r0 : Row w B0 92 a0 n0 5 Rq.cs zs) (r1 : Row w B1 3 a1 n1 1 intR fs) (r2 : Row w B2 3 a2 n2 1 intR ls)
    (h01 : ∀ g, rowBlk a0 n0 = some g → rowBlk a1 n1 ≠ some g) (h02 : ∀ g, rowBlk a0 n0 = some g → rowBlk a2 n2 ≠ some g) (h12 : ∀ g, rowBlk a1 n1 = some g → rowBlk a2 n2 ≠ some g)
    (hl0 : zs.length = n0) (hl1 : fs.length = n1) (hl2 : ls.length = n2) (hm0 : 0 ≤ m) (hm1 : m ≤ 1048576) (hs0 : n0 ≤ 2097152) (hs1 : n1 ≤ 2097152) (hs2 : n2 ≤ 2097152) :
    Calls Try.prog 54 #[.agg #[.slice a0 n0 n0, .slice a1 n1 n1, .slice a2 n2 n2], .int .i64 m] w fun e w' =>
      e = .returned (.int .i64 (m + ((n0 * 5 : Nat) : Int) + (n1 : Int) + (n2 : Int))) ∧ Marks w' a0 n0 5 m ∧ Marks w' a1 n1 1 (m + ((n0 * 5 : Nat) : Int)) ∧ Marks w' a2 n2 1 (m + ((n0 * 5 : Nat) : Int) + (n1 : Int)) ∧
      Turned (fun b => rowBlk a0 n0 = some b ∨ rowBlk a1 n1 = some b ∨ rowBlk a2 n2 = some b) w w' := by
  have R0 := Lib.hid r0
  have R1 := Lib.hid r1
  have R2 := Lib.hid r2
  have H01 := Lib.hid h01
  have H02 := Lib.hid h02
  have H12 := Lib.hid h12
  clear r0 r1 r2 h01 h02 h12
  go_enter Try.func54, Try.ntmps54
  go_wp2_with fail
  obtain ⟨W, hW, sW, aW, kW⟩ := blocks1 w (.cells #[.slice a0 n0 n0, .slice a1 n1 n1, .slice a2 n2 n2] 46)
  rw [← hW]
  clear hW
  refine (markEnts_r m W (R0.out.below kW) hl0 hm0 (by omega) (by omega)).mono ?_
  rintro e w1 ⟨rfl, m1⟩
  have b1 := (m1.grown.block w.heap.size (by omega) (fun e => by have := (R0.out.blk e.symm).2; omega)).trans aW
  have hc1 := cell_of_block b1
  have R11 := Lib.hid ((R1.out.below kW).kept m1.grown (fun g hg e => H01.out g e hg))
  have R21 := Lib.hid ((R2.out.below kW).kept m1.grown (fun g hg e => H02.out g e hg))
  have M1 := Lib.hid m1
  clear m1 aW
  go_wp2_with fail
  refine (markInt_r (m + ((n0 * 5 : Nat) : Int)) w1 R11.out hl1 (by omega) (by omega) (by omega)).mono ?_
  rintro e w2 ⟨rfl, m2⟩
  have b2 := (m2.grown.block w.heap.size (by rw [M1.out.size]; omega) (fun e => by have := (R1.out.blk e.symm).2; omega)).trans b1
  have hc2 := cell_of_block b2
  have R22 := Lib.hid (R21.out.kept m2.grown (fun g hg e => H12.out g e hg))
  have M2 := Lib.hid m2
  clear m2 b1 hc1
  go_wp2_with fail
  refine (markInt_r (m + ((n0 * 5 : Nat) : Int) + (n1 : Int)) w2 R22.out hl2 (by omega) (by omega) (by omega)).mono ?_
  rintro e w3 ⟨rfl, m3⟩
  have M3 := Lib.hid m3
  clear m3 b2 hc2
  go_wp2_with fail
  go_ret
  have k1 := M1.out.marks (fun g hg => ((R0.out.below kW).blk hg).2)
  have k2 := M2.out.marks (fun g hg => (R11.out.blk hg).2)
  have k3 := M3.out.marks (fun g hg => (R22.out.blk hg).2)
  refine ⟨rfl, (k1.kept M2.out.grown M2.out.size (fun b hb e => H01.out b hb e)).kept M3.out.grown M3.out.size (fun b hb e => H02.out b hb e), k2.kept M3.out.grown M3.out.size (fun b hb e => H12.out b hb e), k3, ?_⟩
  exact (((Turned.ofBelow _ kW).trans ((Turned.ofGrown M1.out.grown).mono fun b hb => .inl hb)).trans ((Turned.ofGrown M2.out.grown).mono fun b hb => .inr (.inl hb))).trans ((Turned.ofGrown M3.out.grown).mono fun b hb => .inr (.inr hb))

set_option maxHeartbeats 2000000 in
theorem heldGame_r {B0 B1 B2 n0 n1 n2 : Nat} {a0 a1 a2 : Option Addr} {zs : List Rq} {fs ls : List Int} {v0 v1 v2 : World} (m : Int) (w : World) (r0 : Row v0 B0 92 a0 n0 5 Rq.cs zs) (r1 : Row v1 B1 3 a1 n1 1 intR fs) (r2 : Row v2 B2 3 a2 n2 1 intR ls)
    (hl0 : zs.length = n0) (hl1 : fs.length = n1) (hl2 : ls.length = n2) (hc0 : Marks w a0 n0 5 m) (hc1 : Marks w a1 n1 1 (m + ((n0 * 5 : Nat) : Int))) (hc2 : Marks w a2 n2 1 (m + ((n0 * 5 : Nat) : Int) + (n1 : Int))) (hm0 : 0 ≤ m) (hm1 : m ≤ 1048576) (hs0 : n0 ≤ 2097152) (hs1 : n1 ≤ 2097152) (hs2 : n2 ≤ 2097152) :
    Calls Try.prog 55 #[.agg #[.slice a0 n0 n0, .slice a1 n1 n1, .slice a2 n2 n2], .int .i64 m] w fun e w' =>
      e = .returned (.int .i64 (m + ((n0 * 5 : Nat) : Int) + (n1 : Int) + (n2 : Int))) ∧ Below w.heap.size w w' := by
  have R0 := Lib.hid r0
  have R1 := Lib.hid r1
  have R2 := Lib.hid r2
  have C0 := Lib.hid hc0
  have C1 := Lib.hid hc1
  have C2 := Lib.hid hc2
  clear r0 r1 r2 hc0 hc1 hc2
  have hp0 : ¬ (m + ((n0 * 5 : Nat) : Int)) < 0 := by omega
  have hp1 : ¬ (m + ((n0 * 5 : Nat) : Int) + (n1 : Int)) < 0 := by omega
  have hp2 : ¬ (m + ((n0 * 5 : Nat) : Int) + (n1 : Int) + (n2 : Int)) < 0 := by omega
  go_enter Try.func55, Try.ntmps55
  go_wp2_with fail
  obtain ⟨W, hW, sW, aW, kW⟩ := blocks1 w (.cells #[.slice a0 n0 n0, .slice a1 n1 n1, .slice a2 n2 n2] 46)
  rw [← hW]
  clear hW
  have hcW := cell_of_block aW
  refine (heldEnts_r m W R0.out hl0 (fun g hg => ((C0.out.below kW) g hg).2) hm0 (by omega) (by omega)).mono ?_
  rintro e w1 ⟨rfl, rfl⟩
  go_wp2_with fail
  refine (heldInt_r (m + ((n0 * 5 : Nat) : Int)) W R1.out hl1 (fun g hg => ((C1.out.below kW) g hg).2) (by omega) (by omega) (by omega)).mono ?_
  rintro e w1 ⟨rfl, rfl⟩
  go_wp2_with fail
  refine (heldInt_r (m + ((n0 * 5 : Nat) : Int) + (n1 : Int)) W R2.out hl2 (fun g hg => ((C2.out.below kW) g hg).2) (by omega) (by omega) (by omega)).mono ?_
  rintro e w1 ⟨rfl, rfl⟩
  go_wp2_with fail
  go_ret
  exact ⟨rfl, kW⟩
end Go.Proofs.Ytofedboeggdkaaa
