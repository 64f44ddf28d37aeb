/- Contracts of toAhead, szAhead, eqAhead; condition: at most 2^20 elements. -/
import Derived.Test.YtofedboeggdkaaaEqS
namespace Go.Proofs.Ytofedboeggdkaaa
open Go.RowKit Go.Joins

theorem sl_of_block {α : Type} {w : World} {B n k : Nat} {R : α → List Value} {zs : List α} {t : TypeId} {fr : Nat × Nat} (hR : ∀ z, (R z).length = k) (h : w.heap[B]? = some (.cells (flat R zs) t fr)) (hl : zs.length = n) (hn : n ≤ 1048576) : IsSl w (.slice (some ⟨B, 0, none⟩) n n) k R zs := by
  subst hl
  exact ⟨some ⟨B, 0, none⟩, zs.length, rfl, Nat.le_refl _, by unfold maxLen; omega, rows_of_block hR h⟩
theorem int_len (z : Int) : (intR z).length = 1 := rfl
theorem Copied.sl5 {t : TypeId} {zs : List Rq} {w w' : World} {e : Ending} (h : Copied t Rq.cs zs w e w') (hn : zs.length ≤ 1048576) :
    ∃ g, e = .returned (.slice (some ⟨g, 0, none⟩) zs.length zs.length) ∧ IsSl w' (.slice (some ⟨g, 0, none⟩) zs.length zs.length) 5 Rq.cs zs ∧ Below w.heap.size w w' := ⟨_, h.1, sl_of_block five_len h.2.1 rfl hn, h.2.2⟩
theorem Copied.sl1 {t : TypeId} {zs : List Int} {w w' : World} {e : Ending} (h : Copied t intR zs w e w') (hn : zs.length ≤ 1048576) :
    ∃ g, e = .returned (.slice (some ⟨g, 0, none⟩) zs.length zs.length) ∧ IsSl w' (.slice (some ⟨g, 0, none⟩) zs.length zs.length) 1 intR zs ∧ Below w.heap.size w w' := ⟨_, h.1, sl_of_block int_len h.2.1 rfl hn, h.2.2⟩

/-- The world behind one store, under a name of its own. -/
theorem stored1 (w : World) (g i : Nat) (v : Value) {cs : Array Value} {t : TypeId} {fr : Nat × Nat} (h : w.heap[g]? = some (.cells cs t fr)) :
    ∃ W, W = w.setCell ⟨g, i, none⟩ v ∧ W.heap.size = w.heap.size ∧ W.heap[g]? = some (.cells (cs.setIfInBounds i v) t fr) ∧ (∀ b, b ≠ g → W.heap[b]? = w.heap[b]?) ∧ Below g w W :=
  ⟨_, rfl, by simp, block_setCell h v, fun b hb => Below.heap_setCell _ _ _ _ hb, by exact (by repeat' (first | with_reducible exact Below.refl _ _ | with_reducible assumption | with_reducible refine Below.alloc ?_ ?_ _ | with_reducible refine Below.drew ?_ | with_reducible refine Below.setCell ?_ ?_ _ | omega | (simp; omega) | (simp; done)))⟩

/-- A client that is ahead, anew: its blocks. -/
def GotAhB (z : Ah) (w : World) (e : Ending) (w' : World) : Prop :=
  ∃ g0 g1, e = .returned (.agg #[.slice (some ⟨g0, 0, none⟩) z.dn.length z.dn.length, .slice (some ⟨g1, 0, none⟩) z.wt.length z.wt.length, .int .i64 z.bk]) ∧
    w'.heap[g0]? = some (.cells (flat Rq.cs z.dn) 34 (0, 0)) ∧ w'.heap[g1]? = some (.cells (flat Rq.cs z.wt) 34 (0, 0)) ∧ w.heap.size ≤ g0 ∧ g0 < g1 ∧ Below w.heap.size w w'
/-- A client that is ahead, anew. -/
def GotAh (z : Ah) (w : World) (e : Ending) (w' : World) : Prop :=
  ∃ g0 g1, e = .returned (.agg #[.slice (some ⟨g0, 0, none⟩) z.dn.length z.dn.length, .slice (some ⟨g1, 0, none⟩) z.wt.length z.wt.length, .int .i64 z.bk]) ∧
    IsSl w' (.slice (some ⟨g0, 0, none⟩) z.dn.length z.dn.length) 5 Rq.cs z.dn ∧ IsSl w' (.slice (some ⟨g1, 0, none⟩) z.wt.length z.wt.length) 5 Rq.cs z.wt ∧ Below w.heap.size w w'

set_option maxHeartbeats 1000000 in
theorem toAhead_b (z : Ah) (a0 a1 : Option Addr) (c0 c1 : Nat) (w : World) (ha : IsSl w (.slice a0 z.dn.length c0) 5 Rq.cs z.dn) (hb : IsSl w (.slice a1 z.wt.length c1) 5 Rq.cs z.wt) (hla : z.dn.length ≤ 1048576) (hlb : z.wt.length ≤ 1048576) :
    Calls Try.prog 17 #[.agg #[.slice a0 z.dn.length c0, .slice a1 z.wt.length c1, .int .i64 z.bk]] w (GotAhB z w) := by
  obtain ⟨dn, wt, bk⟩ := z
  simp only at ha hb hla hlb ⊢
  generalize hn0 : dn.length = n0 at *
  generalize hn1 : wt.length = n1 at *
  go_enter Try.func17, Try.ntmps17
  go_wp2_with fail
  obtain ⟨W, hW, sW, aW, bW, cW, kW⟩ := blocks3 w (.cells #[.slice a0 n0 c0, .slice a1 n1 c1, .int .i64 bk] 24) (.cells #[.slice none 0 0, .slice none 0 0, .int .i64 0] 30) (.cells #[.slice none 0 0, .slice none 0 0, .int .i64 0] 30)
  rw [← hW]
  clear hW
  have HB := Lib.hid hb
  refine (toReqS_c _ dn _ (ha.below kW) (by omega)).mono ?_
  intro e w1 h1
  obtain ⟨rfl, h1, k1⟩ := h1
  rw [hn0]
  have K1 := below_next kW k1
  have s1 := k1.size
  have aW1 := carryB k1 (by omega) aW
  have bW1 := carryB k1 (by omega) bW
  have cW1 := carryB k1 (by omega) cW
  rw [sW] at h1 ⊢
  have hcA := cell_of_block aW1
  have hcC := cell_of_block cW1
  have hfC := unfrozen_of_block cW1
  have lW := lt_of_block h1
  clear aW bW cW ha hb kW k1
  go_wp2_with fail
  obtain ⟨X, hX, sX, cX, oX, kX⟩ := stored1 w1 (w.heap.size + 2) 0 (.slice (some ⟨w.heap.size + 3, 0, none⟩) n0 n0) cW1
  rw [← hX]
  clear hX
  have KX := K1.trans (kX.mono (by omega))
  have aX := (oX _ (by omega)).trans aW1
  have bX := (oX _ (by omega)).trans bW1
  have gX := (oX _ (by omega)).trans h1
  refine (toReqS_c _ wt _ (HB.out.below KX) (by omega)).mono ?_
  intro e w2 h2
  obtain ⟨rfl, h2, k2⟩ := h2
  rw [hn1]
  have K2 := below_next KX k2
  have aX2 := carryB k2 (by omega) aX
  have bX2 := carryB k2 (by omega) bX
  have cX2 := carryB k2 (by omega) cX
  have gX2 := carryB k2 (by omega) gX
  clear aX bX cX gX k2 KX oX kX hcA hcC hfC aW1 bW1 cW1 h1 K1
  have hcA := cell_of_block aX2
  have hcB := cell_of_block bX2
  have hfB := unfrozen_of_block bX2
  have hcC := cell_of_block cX2
  have hfC := unfrozen_of_block cX2
  have l2 := lt_of_block h2
  go_wp2_with fail
  have HK := Lib.hid K2
  refine bodyPost_ret (v := .agg #[.slice (some ⟨w.heap.size + 3, 0, none⟩) n0 n0, .slice (some ⟨w1.heap.size, 0, none⟩) n1 n1, .int .i64 bk]) (by simp [results, Try.results17, go_sem, hcB]) rfl ?_
  refine ⟨w.heap.size + 3, w1.heap.size, ?_, ?_, ?_, by omega, by omega, ?_⟩
  · rw [hn0, hn1]
  · repeat rw [Below.heap_setCell _ _ _ _ (by simp; try omega)]
    exact gX2
  · repeat rw [Below.heap_setCell _ _ _ _ (by simp; try omega)]
    rw [← sX]
    exact h2
  · replace K2 := HK.out
    exact (by repeat' (first | with_reducible exact Below.refl _ _ | with_reducible assumption | with_reducible refine Below.alloc ?_ ?_ _ | with_reducible refine Below.drew ?_ | with_reducible refine Below.setCell ?_ ?_ _ | omega | (simp; omega) | (simp; done)))
theorem toAhead_c (z : Ah) (a0 a1 : Option Addr) (c0 c1 : Nat) (w : World) (ha : IsSl w (.slice a0 z.dn.length c0) 5 Rq.cs z.dn) (hb : IsSl w (.slice a1 z.wt.length c1) 5 Rq.cs z.wt) (hla : z.dn.length ≤ 1048576) (hlb : z.wt.length ≤ 1048576) :
    Calls Try.prog 17 #[.agg #[.slice a0 z.dn.length c0, .slice a1 z.wt.length c1, .int .i64 z.bk]] w (GotAh z w) :=
  (toAhead_b z a0 a1 c0 c1 w ha hb hla hlb).mono fun _ _ ⟨g0, g1, he, h0, h1, _, _, k⟩ => ⟨g0, g1, he, sl_of_block five_len h0 rfl hla, sl_of_block five_len h1 rfl hlb, k⟩

set_option maxHeartbeats 1000000 in
theorem szAhead_c (a0 a1 : Option Addr) (n0 n1 c0 c1 : Nat) (bk : Int) (w : World) (h0 : n0 ≤ c0) (m0 : c0 ≤ maxLen) (h1 : n1 ≤ c1) (m1 : c1 ≤ maxLen) :
    Calls Try.prog 15 #[.agg #[.slice a0 n0 c0, .slice a1 n1 c1, .int .i64 bk], .int .i64 1048576] w fun e w' =>
      e = .returned (.int .i64 (if n0 + n1 ≤ 1048576 then 1048576 - n0 - n1 else -1)) ∧ Below w.heap.size w w' := by
  have M0 := Lib.hid m0
  have M1 := Lib.hid m1
  clear m0 m1
  by_cases hA : n0 ≤ 1048576
  · have e0 : leftOf 1048576 n0 = 1048576 - n0 := by unfold leftOf; rw [if_neg (by omega)]
    by_cases hB : n0 + n1 ≤ 1048576
    · have e1 : leftOf (1048576 - n0) n1 = 1048576 - n0 - n1 := by unfold leftOf; rw [if_neg (by omega)]
      go_enter Try.func15, Try.ntmps15
      go_wp2_with fail
      refine (szReqS_c _ _ _ _ _ h0 M0.out (by omega) (by omega)).mono ?_
      rintro e w1 ⟨rfl, rfl⟩
      rw [e0]
      go_wp2_with fail
      refine (szReqS_c _ _ _ _ _ h1 M1.out (by omega) (by omega)).mono ?_
      rintro e w1 ⟨rfl, rfl⟩
      rw [e1]
      go_wp2_with fail
      go_ret
      exact ⟨rfl, (by repeat' (first | with_reducible exact Below.refl _ _ | with_reducible assumption | with_reducible refine Below.alloc ?_ ?_ _ | with_reducible refine Below.drew ?_ | with_reducible refine Below.setCell ?_ ?_ _ | omega | (simp; omega) | (simp; done)))⟩
    · have e1 : leftOf (1048576 - n0) n1 = -1 := by unfold leftOf; rw [if_pos (by omega)]
      go_enter Try.func15, Try.ntmps15
      go_wp2_with fail
      refine (szReqS_c _ _ _ _ _ h0 M0.out (by omega) (by omega)).mono ?_
      rintro e w1 ⟨rfl, rfl⟩
      rw [e0]
      go_wp2_with fail
      refine (szReqS_c _ _ _ _ _ h1 M1.out (by omega) (by omega)).mono ?_
      rintro e w1 ⟨rfl, rfl⟩
      rw [e1]
      go_wp2_with fail
      go_ret
      exact ⟨rfl, (by repeat' (first | with_reducible exact Below.refl _ _ | with_reducible assumption | with_reducible refine Below.alloc ?_ ?_ _ | with_reducible refine Below.drew ?_ | with_reducible refine Below.setCell ?_ ?_ _ | omega | (simp; omega) | (simp; done)))⟩
  · have e0 : leftOf 1048576 n0 = -1 := by unfold leftOf; rw [if_pos (by omega)]
    go_enter Try.func15, Try.ntmps15
    go_wp2_with fail
    refine (szReqS_c _ _ _ _ _ h0 M0.out (by omega) (by omega)).mono ?_
    rintro e w1 ⟨rfl, rfl⟩
    rw [e0]
    go_wp2_with fail
    go_ret
    exact ⟨rfl, (by repeat' (first | with_reducible exact Below.refl _ _ | with_reducible assumption | with_reducible refine Below.alloc ?_ ?_ _ | with_reducible refine Below.drew ?_ | with_reducible refine Below.setCell ?_ ?_ _ | omega | (simp; omega) | (simp; done)))⟩

set_option maxHeartbeats 1000000 in
theorem eqAhead_c (z : Ah) (a0 a1 b0 b1 : Option Addr) (c0 c1 d0 d1 : Nat) (w : World) (ha0 : IsSl w (.slice a0 z.dn.length c0) 5 Rq.cs z.dn) (ha1 : IsSl w (.slice a1 z.wt.length c1) 5 Rq.cs z.wt)
    (hb0 : IsSl w (.slice b0 z.dn.length d0) 5 Rq.cs z.dn) (hb1 : IsSl w (.slice b1 z.wt.length d1) 5 Rq.cs z.wt) :
    Calls Try.prog 20 #[.agg #[.slice a0 z.dn.length c0, .slice a1 z.wt.length c1, .int .i64 z.bk], .agg #[.slice b0 z.dn.length d0, .slice b1 z.wt.length d1, .int .i64 z.bk]] w (Yes w) := by
  have A1 := Lib.hid ha1
  have B1 := Lib.hid hb1
  clear ha1 hb1
  go_enter Try.func20, Try.ntmps20
  go_wp2_with fail
  obtain ⟨W, hW, sW, aW, bW, kW⟩ := blocks2 w (.cells #[.slice a0 z.dn.length c0, .slice a1 z.wt.length c1, .int .i64 z.bk] 30) (.cells #[.slice b0 z.dn.length d0, .slice b1 z.wt.length d1, .int .i64 z.bk] 30)
  rw [← hW]
  clear hW
  refine (eqReqS_c _ _ z.dn _ (ha0.below kW) (hb0.below kW)).mono ?_
  rintro e w1 ⟨rfl, k1⟩
  have K1 := below_next kW k1
  have hcA := cell_of_block (carryB k1 (by omega) aW)
  have hcB := cell_of_block (carryB k1 (by omega) bW)
  go_wp2_with fail
  refine (eqReqS_c _ _ z.wt _ (A1.out.below K1) (B1.out.below K1)).mono ?_
  rintro e w2 ⟨rfl, k2⟩
  have s1 := k1.size
  have hcA2 := cell_of_block (carryB k2 (by omega) (carryB k1 (by omega) aW))
  have hcB2 := cell_of_block (carryB k2 (by omega) (carryB k1 (by omega) bW))
  have K2 := below_next K1 k2
  go_wp2_with fail
  go_ret
  exact ⟨rfl, K2⟩
end Go.Proofs.Ytofedboeggdkaaa
