/- The draw of a game (l20Game): an ok game in rows of its own; condition: fewer than 2^40 reads. -/
import Derived.Test.YtilldpoleiippaaGreatDoorDrawReqs
import Derived.Test.YtilldpoleiippaaGreatDoorFoldS
import Derived.Test.YtilldpoleiippaaGreatDoorCopyG
import Derived.Test.YtilldpoleiippaaGreatDoorOwnS
set_option linter.unusedSimpArgs false
set_option linter.unusedVariables false
namespace Go.Proofs.YtilldpoleiippaaGreatDoor
open Go.RowKit Go.Joins

theorem Own3.grownG {w w' : World} {B g : Nat} {a0 a1 a2 : Option Addr} {c0 c1 c2 : Nat} {z : Gm} (h : Own3 w B a0 c0 a1 c1 a2 c2 z) (k : w.grownBy w' (some g)) (hg : g < B) : Own3 w' B a0 c0 a1 c1 a2 c2 z :=
  ⟨h.e.kept k (fun b hb e => by have := (h.e.blk hb).1; injection e; omega), h.f.kept k (fun b hb e => by have := (h.f.blk hb).1; injection e; omega), h.l.kept k (fun b hb e => by have := (h.l.blk hb).1; injection e; omega), h.ef, h.el, h.fl⟩
theorem grown_set3 {a w : World} {g G : Nat} (h : a.grownBy w (some g)) (hG : a.heap.size ≤ G) (x y u : Value) : a.grownBy (((w.setCell ⟨G, 0, none⟩ x).setCell ⟨G, 1, none⟩ y).setCell ⟨G, 2, none⟩ u) (some g) :=
  grown_setCell (grown_setCell (grown_setCell h (.inr hG) _) (.inr hG) _) (.inr hG) _
theorem gameB_lens {z : Gm} (h : gameB z = true) : z.es.length ≤ 4 ∧ z.fl.length = 16 ∧ z.la.length = 4 := by
  rw [gameB_iff] at h
  exact ⟨ents_le4 h.1, h.2.2.2.1, h.2.2.2.2.1⟩
/-- A game of its own, drawn. -/
def GameGot (w : World) (g Q : Nat) (e : Ending) (w' : World) : Prop :=
  ∃ (z : Gm) (v : Value), e = .returned v ∧ OwnGm w' w.heap.size v z ∧ gameB z = true ∧ Rdr w' g Q ∧ w.grownBy w' (some g)

set_option maxRecDepth 100000 in
set_option maxHeartbeats 4000000 in
theorem l20Game_c (w : World) (g P : Nat) (hr : Rdr w g P) (hP : P ≤ 1099511590000) :
    Calls Tryz.prog 12 #[.pointer (some ⟨g, 0, none⟩)] w (GameGot w g (P + 300)) := by
  have hlt := hr.lt
  go_enter Tryz.func12, Tryz.ntmps12
  go_wp2_with fail
  obtain ⟨W, hW, sW, rW, nW, kW⟩ := blocks2 w (.cells #[.slice none 0 0, .slice none 0 0, .slice none 0 0] 27) (.cells #[.int .i64 0, .int .i64 6, .int .i64 20, .int .i64 40] 3)
  rw [← hW]
  clear hW
  refine (one_c W g P (w.heap.size + 1) 4 _ [0, 6, 20, 40] _ (hr.below (kW.mono (by omega))) (by omega) (by omega) nW rfl rfl (by decide) (by decide)).mono ?_
  rintro e w1 ⟨v1, hv1, rfl, r1, k1⟩
  have hv : ∃ m : Nat, v1 = (m : Int) ∧ m ≤ 40 := by
    simp only [List.mem_cons, List.not_mem_nil, or_false] at hv1
    rcases hv1 with rfl | rfl | rfl | rfl
    · exact ⟨0, rfl, by decide⟩
    · exact ⟨6, rfl, by decide⟩
    · exact ⟨20, rfl, by decide⟩
    · exact ⟨40, rfl, by decide⟩
  obtain ⟨m, rfl, hm⟩ := hv
  have hs1 := k1.size
  have R1 := Lib.hid (carry k1 (by omega) rW)
  have G1 : w.grownBy w1 (some g) := grown_trans (grown_of_below kW _) k1
  have RD1 := Lib.hid r1
  clear hv1 rW nW k1 r1 hr
  go_wp2_with fail
  refine (l20Reqs_c w1 g (P + 1) m RD1.out (by omega) (by omega)).mono ?_
  rintro e w2 ⟨rs, a', cap', rfl, hlen, hgood, hrow, r2, k2⟩
  have hs2 := k2.size
  have R2 := Lib.hid (carry k2 (by omega) R1.out)
  have G2 := Lib.hid (grown_trans G1 k2)
  have RD2 := Lib.hid (r2.mono (show P + 1 + 1 + 7 * m ≤ P + 300 by omega))
  have SL := Lib.hid (hrow.sl five_len)
  have HG := Lib.hid hgood
  have hlt2 : g + 1 ≤ w2.heap.size := by omega
  have hw2 : w.heap.size ≤ w2.heap.size := by omega
  clear k2 r2 hrow hgood hlen G1 R1 RD1 hs1 hs2 sW
  go_wp2_with fail
  refine (l2Fold_c _ rs w2 SL.out HG.out).mono ?_
  rintro e w3 ⟨v, rfl, ov, k3⟩
  obtain ⟨e0, f0, e1, f1, e2, f2, rfl, o3⟩ := ov.rows
  have HOK := Lib.hid (foldG_new_ok HG.out)
  obtain ⟨y, hy⟩ : ∃ y, y = foldG newG rs := ⟨_, rfl⟩
  rw [← hy] at o3 HOK ⊢
  have hlen := (gameB_lens HOK.out).2
  have h4 := (gameB_lens HOK.out).1
  have hb0 : y.es.length ≤ 16777216 := Nat.le_trans h4 (by decide)
  have hb1 : y.fl.length ≤ 16777216 := by rw [hlen.1]; decide
  have hb2 : y.la.length ≤ 16777216 := by rw [hlen.2]; decide
  have CC := Lib.hid (fun V (o : Own3 V w2.heap.size e0 f0 e1 f1 e2 f2 y) => l2Copy_c y e0 e1 e2 y.es.length y.fl.length y.la.length f0 f1 f2 V (o.e.sl five_len) (o.f.sl int_len) (o.l.sl int_len) hb0 hb1 hb2)
  have O3 := Lib.hid o3
  have K3 := Lib.hid k3
  have R3 := Lib.hid (carryN k3 R2.out)
  clear ov hy hb0 hb1 hb2 h4 hlen o3 k3 R2
  go_wp2_with fail
  refine (CC.out w3 O3.out).mono ?_
  rintro e w4 ⟨v4, rfl, ov4, k4⟩
  obtain ⟨g0, j0, g1, j1, g2, j2, rfl, o4⟩ := ov4.rows
  have K4 := Lib.hid (below_next K3.out k4)
  have R4 := carryN k4 R3.out
  have R4' := Lib.hid R4
  have O4 := Lib.hid (o4.low (Nat.le_trans hw2 K3.out.size))
  have cR := cell_of_block R4
  have fR := unfrozen_of_block R4
  have lR := lt_of_block R4
  clear R4 k4 ov4 o4
  go_wp2_with fail
  refine bodyPost_ret (v := .agg #[.slice g0 y.es.length j0, .slice g1 y.fl.length j1, .slice g2 y.la.length j2]) (by simp [results, Tryz.results12, go_sem, cR]) rfl ?_
  refine ⟨y, _, rfl, (O4.out.set3 R4'.out _ _ _).gm, HOK.out, RD2.out.below (below_set3 (K4.out.mono hlt2) (by omega) _ _ _), grown_set3 (grown_trans G2.out (grown_of_below K4.out _)) (Nat.le_refl _) _ _ _⟩
end Go.Proofs.YtilldpoleiippaaGreatDoor
