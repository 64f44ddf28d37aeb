/- What is to be done at all places (l4Picks): at most five asks; condition: places of at most 5. -/
import Derived.Test.YtgdhieffjflejaaK7
set_option linter.unusedSimpArgs false
set_option linter.unusedVariables false
namespace Go.Proofs.Ytgdhieffjflejaa
open Go.RowKit Go.Joins

/-- At most five asks, in a row of their own. -/
def PicksGot (w : World) (e : Ending) (w' : World) : Prop :=
  ∃ (a : Option Addr) (c : Nat) (ps : List Rq), e = .returned (.slice a ps.length c) ∧ ps.length ≤ 5 ∧ Row w' w.heap.size 30 a c 5 Rq.cs ps ∧ Below w.heap.size w w'

set_option maxRecDepth 100000 in
set_option maxHeartbeats 8000000 in
theorem l4Picks_c (va : Value) (vs : List Vx) (w : World) (ha : IsVs w va vs) (hf : ∀ z ∈ vs, ∀ c ∈ z.cl, c.s ≤ 5) :
    Calls Try.prog 114 #[va] w (PicksGot w) := by
  have HA := Lib.hid ha
  have HF := Lib.hid hf
  obtain ⟨⟨av, cv, rfl, -⟩, -⟩ := ha
  clear hf
  go_enter Try.func114, Try.ntmps114
  go_wp2_with fail
  obtain ⟨W, hW, sW, vW, kW⟩ := blocks1 w (.cells #[] 30)
  rw [← hW]
  clear hW vW sW
  go_loopw [3, 4] (fun st i wr => ∃ (k : Nat) (a : Option Addr) (c : Nat) (ps : List Rq), k ≤ 5 ∧ ps.length = k ∧ i = .int .i64 ((k : Int) + 1) ∧ st = .slice a ps.length c ∧ Row wr w.heap.size 30 a c 5 Rq.cs ps ∧ Below w.heap.size w wr) (fun _ i _ => 7 - (intOf i).toNat)
  case atStart => exact ⟨0, some ⟨w.heap.size, 0, none⟩, 0, [], by omega, rfl, rfl, rfl, Row.nil _ _ _ _ _ _, kW⟩
  case round =>
    clear kW
    obtain ⟨k, a, c, ps, hk, hpl, rfl, rfl, hrow, hbel⟩ := hrel
    have RW := Lib.hid hrow
    have HPL := Lib.hid hpl
    clear hrow hpl
    have hk0 : (0 : Int) ≤ (k : Int) := by omega
    have hk5 : (k : Int) ≤ 5 := by omega
    go_wp2_with fail
    refine (l4Top_w _ vs wr (HA.out.below hbel) HF.out).mono ?_
    rintro e w1 ⟨t, rfl, ht, k1⟩
    have K1 := below_next hbel k1
    replace RW := Lib.hid (RW.out.below k1)
    have hs1 : w.heap.size ≤ w1.heap.size := K1.size
    clear k1 hbel
    by_cases hkt : (k : Int) + 1 ≤ t
    · go_wp2_with fail
      refine (l4Pick_w _ vs ((k : Int) + 1) w1 (HA.out.below K1)).mono ?_
      rintro e w2 ⟨p, rfl, k2⟩
      have K2 := below_next K1 k2
      replace RW := Lib.hid (RW.out.below k2)
      have hs2 : w.heap.size ≤ w2.heap.size := K2.size
      have hpl5 : ps.length ≤ 5 := by have := HPL.out; omega
      clear k2 K1
      go_wp2_with (at_builtin; refine wpList_append_row rfl _ _ rfl (ps.length + 1) eltReq rfl rfl (RW.out.below ((Below.refl w2.heap.size w2).alloc (Nat.le_refl _) _)) (ys := [p]) (rows_of_block (R := Rq.cs) (zs := [p]) (fun _ => rfl) (heap_alloc_new w2 _)) rfl rfl rfl (by simp only [maxLen]; omega) (by omega) (by simp; omega) ?_)
      intro a2 c2 w3 q2
      have hrb_ : ∀ g, rowBlk a c = some g → w.heap.size ≤ g := fun g hg => (RW.out.blk hg).1
      have k3 : Below w.heap.size w2 w3 := ((Below.refl w2.heap.size w2).alloc (Nat.le_refl _) (.cells #[.int .i64 p.c, .int .i64 p.n, .int .i64 p.o, .int .i64 p.x, .int .i64 p.y] 30) |>.mono hs2).trans (q2.below (by simp; omega) hrb_)
      have RW2 := Lib.hid q2.row
      have K3 := Lib.hid (K2.trans k3)
      have hlen : (ps ++ [p]).length = k + 1 := by have := HPL.out; simp; omega
      have HL := Lib.hid hlen
      clear q2 k3 K2 hrb_ hlen RW
      go_wp2_with fail
      go_roundw
      case rel => exact ⟨k + 1, a2, c2, ps ++ [p], by omega, HL.out, by go_num, by simp, RW2.out, K3.out⟩
      case measure => simp [intOf]; omega
    · go_wp2_with fail
      go_ret
      exact ⟨a, c, ps, rfl, by have := HPL.out; omega, RW.out, K1⟩
end Go.Proofs.Ytgdhieffjflejaa
