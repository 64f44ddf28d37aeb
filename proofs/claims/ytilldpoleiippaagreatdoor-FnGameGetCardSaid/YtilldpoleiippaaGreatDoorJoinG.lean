/- The reference's l2Join; condition: small sizes. -/
import Derived.Test.YtilldpoleiippaaGreatDoorOwnG
import Derived.Test.YtilldpoleiippaaGreatDoorOwnX
import Derived.Test.YtilldpoleiippaaGreatDoorFigLaw
set_option linter.unusedSimpArgs false
set_option linter.unusedVariables false
namespace Go.Proofs.YtilldpoleiippaaGreatDoor
open Go.RowKit Go.Joins

theorem rowsAt_ent (w : World) (r : Rq) (t : TypeId) : RowsAt (w.alloc (.cells #[.int .i64 r.c, .int .i64 r.n, .int .i64 r.o, .int .i64 r.x, .int .i64 r.y] t)) (some ⟨w.heap.size, 0, none⟩) 5 Rq.cs [r] :=
  rows_of_block (t := t) (fr := (0, 0)) five_len (heap_alloc_new w (.cells #[.int .i64 r.c, .int .i64 r.n, .int .i64 r.o, .int .i64 r.x, .int .i64 r.y] t))
def JoinOut (X : Nat → Prop) (B n0 n2 : Nat) (a1 a2 : Option Addr) (c1 c2 : Nat) (es : List Rq) (fl la : List Int) (w : World) (e : Ending) (w' : World) : Prop :=
  ∃ b0 d0, e = .returned (.agg #[.slice b0 (n0 + 1) d0, .slice a1 16 c1, .slice a2 n2 c2]) ∧ OwnX X w' B b0 d0 a1 c1 a2 c2 ⟨es, fl, la⟩ ∧ Below w.heap.size w w'

set_option maxRecDepth 100000 in
set_option maxHeartbeats 8000000 in
theorem l2Join_b {B : Nat} {X : Nat → Prop} (es : List Rq) (fl la : List Int) (c : Int) (g0 n0 c0 : Nat) (hc0 : 0 < c0) (n2 : Nat) (a1 a2 : Option Addr) (c1 c2 : Nat) (w : World) (h : OwnX X w B (some ⟨g0, 0, none⟩) c0 a1 c1 a2 c2 ⟨es, fl, la⟩) (hn0 : es.length = n0) (h4 : n0 ≤ 4) (hB : B ≤ w.heap.size) (hc : 1 ≤ c ∧ c ≤ 4) :
    Calls Tryz.prog 62 #[.agg #[.slice (some ⟨g0, 0, none⟩) n0 c0, .slice a1 16 c1, .slice a2 n2 c2], .int .i64 c] w (JoinOut X B n0 n2 a1 a2 c1 c2 (joinE es c) fl la w) := by
  have O := Lib.hid h
  have HN0 := Lib.hid hn0
  have hle0 : n0 ≤ c0 := by have := h.e.len; simp only at this; omega
  have hc0m := h.e.max
  unfold maxLen at hc0m
  clear h hn0
  have hw1 : IntKind.i64.wrap (c - 1) = c - 1 := IntWalk.i64_in _ ⟨by omega, by omega⟩
  go_enter Tryz.func62, Tryz.ntmps62
  go_upto_region 1 with fail
  obtain ⟨W, hW, sW, aW, bW, kW⟩ := blocks2 w (.cells #[.slice (some ⟨g0, 0, none⟩) n0 c0, .slice a1 16 c1, .slice a2 n2 c2] 27) (.cells #[.slice none 0 0, .slice none 0 0, .slice none 0 0] 27)
  rw [← hW]
  clear hW
  have HA := Lib.hid aW
  have HB := Lib.hid bW
  have HKW := Lib.hid kW
  have hl0 : w.heap.size < W.heap.size := by omega
  have hl1 : w.heap.size + 1 < W.heap.size := by omega
  clear aW bW kW sW
  go_wp2_with fail
  go_loopw [5] (fun i wr => ∃ k : Nat, k ≤ n0 ∧ i = .int .i64 k ∧ (∀ j (hj : j < es.length), j < k → es[j].c < c) ∧ Below W.heap.size W wr) (fun i _ => n0 - (intOf i).toNat)
  case atStart => exact ⟨0, Nat.zero_le _, rfl, fun j _ hj => absurd hj (Nat.not_lt_zero j), Below.refl _ _⟩
  case round =>
    obtain ⟨k, hk, rfl, hall, hbel⟩ := hrel
    have HL := Lib.hid hall
    clear hall
    have aW := carryN hbel HA.out
    have bW := carryN hbel HB.out
    have cA := cell_of_block aW
    have KW := Lib.hid (HKW.out.trans (hbel.mono (by omega)))
    by_cases hlt : k < n0
    · have hkz : k < es.length := by rw [HN0.out]; exact hlt
      have hk1 : (k : Int) < (n0 : Int) := by omega
      have hk0 : (0 : Int) ≤ (k : Int) := by omega
      have hOE := (O.out.below KW.out).e
      obtain ⟨g9, hg9, hgB, hgl, e0, -, -, -, -, -, -⟩ := hOE.entAt (i := k) hkz
      injection hg9 with hg9
      injection hg9 with hg9
      subst hg9
      clear hOE hgB
      simp only at e0
      by_cases he : es[k].c < c
      · go_wp2_with fail
        refine ⟨⟨k + 1, by omega, by go_num, fun j hj hjk => ?_, hbel⟩, by simp [intOf]; omega⟩
        by_cases hjk' : j = k
        · subst hjk'; exact he
        · exact HL.out j hj (by omega)
      · have hcz : ¬ c0 = k := by omega
        have HJ := Lib.hid (joinE_at (c := c) (Nat.le_of_lt hkz) HL.out (fun _ => he))
        have hsr := hbel.size
        have lA : w.heap.size < wr.heap.size := by omega
        have lB : w.heap.size + 1 < wr.heap.size := by omega
        have HRE := Lib.hid ((O.out.below KW.out).e.rows five_len)
        have hkc : (k : Int) ≤ (c0 : Int) := by omega
        have hkn : (k : Int) ≤ (n0 : Int) := by omega
        go_upto_region 5 with (at_builtin; refine wpList_append_new (wr.heap.size + 1) rfl (.tmp 24) (.tmp 28) rfl eltEnt rfl rfl (ys := es.take k) ((HRE.out.takeG k).below (by repeat' (first | with_reducible exact Below.refl _ _ | with_reducible assumption | with_reducible refine Below.alloc ?_ ?_ _ | with_reducible refine Below.drew ?_ | with_reducible refine Below.setCell ?_ ?_ _ | omega | (simp; omega) | (simp; done)))) (by have := HN0.out; rw [List.length_take]; omega) (by simp only [maxLen]; omega) (by omega) (by simp <;> omega) ?_; intro x1 d1 w1 q1)
        have k1 := ((Below.refl wr.heap.size wr).alloc (Nat.le_refl _) (.cells #[] 44)).trans (q1.below.mono (by simp <;> omega))
        replace aW := carryN k1 aW
        replace bW := carryN k1 bW
        have K1 := Lib.hid (below_next KW.out k1)
        have R1 := Lib.hid (show Row w1 wr.heap.size 44 x1 d1 5 Rq.cs (es.take k) from q1.row.low (Nat.le_succ _))
        have HB1 := Lib.hid (fun g (hg : rowBlk x1 d1 = some g) => (show wr.heap.size ≤ g from Nat.le_trans (Nat.le_succ _) (q1.row.blk hg).1))
        have s1 := k1.size
        have HR1 := Lib.hid (HRE.out.below k1)
        clear HRE
        clear q1 k1 cA lA lB KW
        have cA := cell_of_block aW
        have lA := lt_of_block aW
        have lB := lt_of_block bW
        obtain ⟨X, hX⟩ : ∃ X, X = w1.alloc (.cells #[.int .i64 c, .int .i64 (c - 1), .int .i64 (c - 1), .int .i64 3, .int .i64 0] 44) := ⟨_, rfl⟩
        have RX := Lib.hid (rowsAt_ent w1 ⟨c, c - 1, c - 1, 3, 0⟩ 44)
        go_upto_region 6 with (at_builtin; refine wpList_append_row rfl (.tmp 30) (.tmp 37) rfl (k + 1) eltEnt rfl rfl (R1.out.alloc _) RX.out (by have := HN0.out; rw [List.length_take]; omega) rfl rfl (by simp only [maxLen]; omega) (by omega) (by simp; omega) ?_; intro x2 d2 w2 q2)
        clear hX X
        have s2 := q2.grown.size
        rw [World.size_alloc] at s2
        have ka := (Below.refl w1.heap.size w1).alloc (Nat.le_refl _) (.cells #[.int .i64 c, .int .i64 (c - 1), .int .i64 (c - 1), .int .i64 3, .int .i64 0] 44)
        have a2 := (q2.grown.block w.heap.size (by simp; omega) (fun e => by have := HB1.out _ e.symm; omega)).trans (carryN ka aW)
        have b2 := (q2.grown.block (w.heap.size + 1) (by simp; omega) (fun e => by have := HB1.out _ e.symm; omega)).trans (carryN ka bW)
        have kb : Below wr.heap.size w1 w2 := (ka.mono s1).grown q2.grown (by simp; omega) (fun g hg => HB1.out _ hg)
        have K2 := Lib.hid (K1.out.trans (kb.mono (by omega)))
        have R2 := Lib.hid q2.row
        have HB2 := Lib.hid (fun g (hg : rowBlk x2 d2 = some g) => (show wr.heap.size ≤ g from (q2.row.blk hg).1))
        have hR2 : RowsAt w2 (some ⟨g0, 0, none⟩) 5 Rq.cs es := (O.out.below K2.out).e.rows five_len
        have hT := hR2.tailG k c0 (fun h => by have := HN0.out; omega)
        clear hR2
        rw [if_neg hcz, Nat.zero_add] at hT
        have T := Lib.hid hT
        clear hT
        clear q2 ka kb aW bW cA lA lB K1 R1 RX
        have cA := cell_of_block a2
        have lA := lt_of_block a2
        have lB := lt_of_block b2
        go_upto_region 7 with (at_builtin; refine wpList_append_row rfl (.tmp 39) (.tmp 43) rfl (n0 + 1) eltEnt rfl rfl R2.out (ys := es.drop k) T.out (by have := HN0.out; rw [List.length_append, List.length_take]; simp; omega) (by rw [List.length_drop, HN0.out]) (by omega) (by simp only [maxLen]; omega) (by omega) (by omega) ?_; intro x3 d3 w3 q3; have cA3 := cell_of_block ((q3.grown.block w.heap.size (by omega) (fun e => by have := HB2.out _ e.symm; omega)).trans a2); have fA3 := unfrozen_of_block ((q3.grown.block w.heap.size (by omega) (fun e => by have := HB2.out _ e.symm; omega)).trans a2))
        obtain ⟨V, hV⟩ : ∃ V, V = w3.setCell ⟨w.heap.size, 0, none⟩ (.slice x3 (n0 + 1) d3) := ⟨_, rfl⟩
        have a3 := (q3.grown.block w.heap.size (by omega) (fun e => by have := HB2.out _ e.symm; omega)).trans a2
        have b3 := (q3.grown.block (w.heap.size + 1) (by omega) (fun e => by have := HB2.out _ e.symm; omega)).trans b2
        have aV := block_setCell (i := 0) a3 (.slice x3 (n0 + 1) d3)
        have bV := (Below.heap_setCell w3 ⟨w.heap.size, 0, none⟩ (.slice x3 (n0 + 1) d3) _ (by simp)).trans b3
        have RE := Lib.hid (q3.row.setOther (p := ⟨w.heap.size, 0, none⟩) (by simp; omega) (.slice x3 (n0 + 1) d3))
        have KV := Lib.hid (Below.setCell (K2.out.grown q3.grown (by omega) (fun g hg => by have := HB2.out _ hg; omega)) (p := ⟨w.heap.size, 0, none⟩) (Nat.le_refl _) (.slice x3 (n0 + 1) d3))
        skip
        rw [← hV] at aV bV RE KV ⊢
        simp only [List.setIfInBounds_toArray, List.set] at aV
        clear hV q3 a3 b3 a2 b2 K2 cA3 fA3 HB2 cA lA lB
        have cA := cell_of_block aV
        have cB := cell_of_block bV
        have fB := unfrozen_of_block bV
        have lA := lt_of_block aV
        have lB := lt_of_block bV
        go_wp2_with fail
        refine bodyPost_ret (v := .agg #[.slice x3 (n0 + 1) d3, .slice a1 16 c1, .slice a2 n2 c2]) (by simp [results, Tryz.results62, go_sem, cB]) rfl ?_
        have hre := RE.out
        have KV' := KV.out
        rw [HJ.out]
        refine ⟨x3, d3, rfl, O.out.newE ?_ (B' := w.heap.size + 2) ?_ (by omega) hB, ?_⟩
        · exact (by repeat' (first | with_reducible exact Below.refl _ _ | with_reducible assumption | with_reducible refine Below.alloc ?_ ?_ _ | with_reducible refine Below.drew ?_ | with_reducible refine Below.setCell ?_ ?_ _ | omega | (simp; omega) | (simp; done)))
        · exact ((((hre.low (by omega)).setOther (by simp) _).setOther (by simp) _).setOther (by simp) _)
        · exact (by repeat' (first | with_reducible exact Below.refl _ _ | with_reducible assumption | with_reducible refine Below.alloc ?_ ?_ _ | with_reducible refine Below.drew ?_ | with_reducible refine Below.setCell ?_ ?_ _ | omega | (simp; omega) | (simp; done)))
    · have hkk : n0 = k := by omega
      subst hkk
      have HJ := Lib.hid (joinE_at (c := c) (k := n0) (by rw [HN0.out]; exact Nat.le_refl _) HL.out (fun h => absurd h (by rw [HN0.out]; exact Nat.lt_irrefl _)))
      have hk0 : (0 : Int) ≤ (n0 : Int) := by omega
      by_cases hcz : c0 = n0
      · skip
        have hsr := hbel.size
        have lA : w.heap.size < wr.heap.size := by omega
        have lB : w.heap.size + 1 < wr.heap.size := by omega
        have HRE := Lib.hid ((O.out.below KW.out).e.rows five_len)
        have hkc : (n0 : Int) ≤ (c0 : Int) := by omega
        have hkn : (n0 : Int) ≤ (n0 : Int) := by omega
        go_upto_region 5 with (at_builtin; refine wpList_append_new (wr.heap.size + 1) rfl (.tmp 24) (.tmp 28) rfl eltEnt rfl rfl (ys := es.take n0) ((HRE.out.takeG n0).below (by repeat' (first | with_reducible exact Below.refl _ _ | with_reducible assumption | with_reducible refine Below.alloc ?_ ?_ _ | with_reducible refine Below.drew ?_ | with_reducible refine Below.setCell ?_ ?_ _ | omega | (simp; omega) | (simp; done)))) (by have := HN0.out; rw [List.length_take]; omega) (by simp only [maxLen]; omega) (by omega) (by simp <;> omega) ?_; intro x1 d1 w1 q1)
        have k1 := ((Below.refl wr.heap.size wr).alloc (Nat.le_refl _) (.cells #[] 44)).trans (q1.below.mono (by simp <;> omega))
        replace aW := carryN k1 aW
        replace bW := carryN k1 bW
        have K1 := Lib.hid (below_next KW.out k1)
        have R1 := Lib.hid (show Row w1 wr.heap.size 44 x1 d1 5 Rq.cs (es.take n0) from q1.row.low (Nat.le_succ _))
        have HB1 := Lib.hid (fun g (hg : rowBlk x1 d1 = some g) => (show wr.heap.size ≤ g from Nat.le_trans (Nat.le_succ _) (q1.row.blk hg).1))
        have s1 := k1.size
        have HR1 := Lib.hid (HRE.out.below k1)
        clear HRE
        clear q1 k1 cA lA lB KW
        have cA := cell_of_block aW
        have lA := lt_of_block aW
        have lB := lt_of_block bW
        obtain ⟨X, hX⟩ : ∃ X, X = w1.alloc (.cells #[.int .i64 c, .int .i64 (c - 1), .int .i64 (c - 1), .int .i64 3, .int .i64 0] 44) := ⟨_, rfl⟩
        have RX := Lib.hid (rowsAt_ent w1 ⟨c, c - 1, c - 1, 3, 0⟩ 44)
        go_upto_region 6 with (at_builtin; refine wpList_append_row rfl (.tmp 30) (.tmp 37) rfl (n0 + 1) eltEnt rfl rfl (R1.out.alloc _) RX.out (by have := HN0.out; rw [List.length_take]; omega) rfl rfl (by simp only [maxLen]; omega) (by omega) (by simp; omega) ?_; intro x2 d2 w2 q2)
        clear hX X
        have s2 := q2.grown.size
        rw [World.size_alloc] at s2
        have ka := (Below.refl w1.heap.size w1).alloc (Nat.le_refl _) (.cells #[.int .i64 c, .int .i64 (c - 1), .int .i64 (c - 1), .int .i64 3, .int .i64 0] 44)
        have a2 := (q2.grown.block w.heap.size (by simp; omega) (fun e => by have := HB1.out _ e.symm; omega)).trans (carryN ka aW)
        have b2 := (q2.grown.block (w.heap.size + 1) (by simp; omega) (fun e => by have := HB1.out _ e.symm; omega)).trans (carryN ka bW)
        have kb : Below wr.heap.size w1 w2 := (ka.mono s1).grown q2.grown (by simp; omega) (fun g hg => HB1.out _ hg)
        have K2 := Lib.hid (K1.out.trans (kb.mono (by omega)))
        have R2 := Lib.hid q2.row
        have HB2 := Lib.hid (fun g (hg : rowBlk x2 d2 = some g) => (show wr.heap.size ≤ g from (q2.row.blk hg).1))
        have hR2 : RowsAt w2 (some ⟨g0, 0, none⟩) 5 Rq.cs es := (O.out.below K2.out).e.rows five_len
        have hT := hR2.tailG n0 c0 (fun h => by have := HN0.out; omega)
        clear hR2
        rw [if_pos hcz] at hT
        have T := Lib.hid hT
        clear hT
        clear q2 ka kb aW bW cA lA lB K1 R1 RX
        have cA := cell_of_block a2
        have lA := lt_of_block a2
        have lB := lt_of_block b2
        go_upto_region 7 with (at_builtin; refine wpList_append_row rfl (.tmp 39) (.tmp 43) rfl (n0 + 1) eltEnt rfl rfl R2.out (ys := es.drop n0) T.out (by have := HN0.out; rw [List.length_append, List.length_take]; simp; omega) (by rw [List.length_drop, HN0.out] <;> omega) (by omega) (by simp only [maxLen]; omega) (by omega) (by omega) ?_; intro x3 d3 w3 q3; have cA3 := cell_of_block ((q3.grown.block w.heap.size (by omega) (fun e => by have := HB2.out _ e.symm; omega)).trans a2); have fA3 := unfrozen_of_block ((q3.grown.block w.heap.size (by omega) (fun e => by have := HB2.out _ e.symm; omega)).trans a2))
        obtain ⟨V, hV⟩ : ∃ V, V = w3.setCell ⟨w.heap.size, 0, none⟩ (.slice x3 (n0 + 1) d3) := ⟨_, rfl⟩
        have a3 := (q3.grown.block w.heap.size (by omega) (fun e => by have := HB2.out _ e.symm; omega)).trans a2
        have b3 := (q3.grown.block (w.heap.size + 1) (by omega) (fun e => by have := HB2.out _ e.symm; omega)).trans b2
        have aV := block_setCell (i := 0) a3 (.slice x3 (n0 + 1) d3)
        have bV := (Below.heap_setCell w3 ⟨w.heap.size, 0, none⟩ (.slice x3 (n0 + 1) d3) _ (by simp)).trans b3
        have RE := Lib.hid (q3.row.setOther (p := ⟨w.heap.size, 0, none⟩) (by simp; omega) (.slice x3 (n0 + 1) d3))
        have KV := Lib.hid (Below.setCell (K2.out.grown q3.grown (by omega) (fun g hg => by have := HB2.out _ hg; omega)) (p := ⟨w.heap.size, 0, none⟩) (Nat.le_refl _) (.slice x3 (n0 + 1) d3))
        skip
        rw [← hV] at aV bV RE KV ⊢
        simp only [List.setIfInBounds_toArray, List.set] at aV
        clear hV q3 a3 b3 a2 b2 K2 cA3 fA3 HB2 cA lA lB
        have cA := cell_of_block aV
        have cB := cell_of_block bV
        have fB := unfrozen_of_block bV
        have lA := lt_of_block aV
        have lB := lt_of_block bV
        go_wp2_with fail
        refine bodyPost_ret (v := .agg #[.slice x3 (n0 + 1) d3, .slice a1 16 c1, .slice a2 n2 c2]) (by simp [results, Tryz.results62, go_sem, cB]) rfl ?_
        have hre := RE.out
        have KV' := KV.out
        rw [HJ.out]
        refine ⟨x3, d3, rfl, O.out.newE ?_ (B' := w.heap.size + 2) ?_ (by omega) hB, ?_⟩
        · exact (by repeat' (first | with_reducible exact Below.refl _ _ | with_reducible assumption | with_reducible refine Below.alloc ?_ ?_ _ | with_reducible refine Below.drew ?_ | with_reducible refine Below.setCell ?_ ?_ _ | omega | (simp; omega) | (simp; done)))
        · exact ((((hre.low (by omega)).setOther (by simp) _).setOther (by simp) _).setOther (by simp) _)
        · exact (by repeat' (first | with_reducible exact Below.refl _ _ | with_reducible assumption | with_reducible refine Below.alloc ?_ ?_ _ | with_reducible refine Below.drew ?_ | with_reducible refine Below.setCell ?_ ?_ _ | omega | (simp; omega) | (simp; done)))
      · skip
        have hsr := hbel.size
        have lA : w.heap.size < wr.heap.size := by omega
        have lB : w.heap.size + 1 < wr.heap.size := by omega
        have HRE := Lib.hid ((O.out.below KW.out).e.rows five_len)
        have hkc : (n0 : Int) ≤ (c0 : Int) := by omega
        have hkn : (n0 : Int) ≤ (n0 : Int) := by omega
        go_upto_region 5 with (at_builtin; refine wpList_append_new (wr.heap.size + 1) rfl (.tmp 24) (.tmp 28) rfl eltEnt rfl rfl (ys := es.take n0) ((HRE.out.takeG n0).below (by repeat' (first | with_reducible exact Below.refl _ _ | with_reducible assumption | with_reducible refine Below.alloc ?_ ?_ _ | with_reducible refine Below.drew ?_ | with_reducible refine Below.setCell ?_ ?_ _ | omega | (simp; omega) | (simp; done)))) (by have := HN0.out; rw [List.length_take]; omega) (by simp only [maxLen]; omega) (by omega) (by simp <;> omega) ?_; intro x1 d1 w1 q1)
        have k1 := ((Below.refl wr.heap.size wr).alloc (Nat.le_refl _) (.cells #[] 44)).trans (q1.below.mono (by simp <;> omega))
        replace aW := carryN k1 aW
        replace bW := carryN k1 bW
        have K1 := Lib.hid (below_next KW.out k1)
        have R1 := Lib.hid (show Row w1 wr.heap.size 44 x1 d1 5 Rq.cs (es.take n0) from q1.row.low (Nat.le_succ _))
        have HB1 := Lib.hid (fun g (hg : rowBlk x1 d1 = some g) => (show wr.heap.size ≤ g from Nat.le_trans (Nat.le_succ _) (q1.row.blk hg).1))
        have s1 := k1.size
        have HR1 := Lib.hid (HRE.out.below k1)
        clear HRE
        clear q1 k1 cA lA lB KW
        have cA := cell_of_block aW
        have lA := lt_of_block aW
        have lB := lt_of_block bW
        obtain ⟨X, hX⟩ : ∃ X, X = w1.alloc (.cells #[.int .i64 c, .int .i64 (c - 1), .int .i64 (c - 1), .int .i64 3, .int .i64 0] 44) := ⟨_, rfl⟩
        have RX := Lib.hid (rowsAt_ent w1 ⟨c, c - 1, c - 1, 3, 0⟩ 44)
        go_upto_region 6 with (at_builtin; refine wpList_append_row rfl (.tmp 30) (.tmp 37) rfl (n0 + 1) eltEnt rfl rfl (R1.out.alloc _) RX.out (by have := HN0.out; rw [List.length_take]; omega) rfl rfl (by simp only [maxLen]; omega) (by omega) (by simp; omega) ?_; intro x2 d2 w2 q2)
        clear hX X
        have s2 := q2.grown.size
        rw [World.size_alloc] at s2
        have ka := (Below.refl w1.heap.size w1).alloc (Nat.le_refl _) (.cells #[.int .i64 c, .int .i64 (c - 1), .int .i64 (c - 1), .int .i64 3, .int .i64 0] 44)
        have a2 := (q2.grown.block w.heap.size (by simp; omega) (fun e => by have := HB1.out _ e.symm; omega)).trans (carryN ka aW)
        have b2 := (q2.grown.block (w.heap.size + 1) (by simp; omega) (fun e => by have := HB1.out _ e.symm; omega)).trans (carryN ka bW)
        have kb : Below wr.heap.size w1 w2 := (ka.mono s1).grown q2.grown (by simp; omega) (fun g hg => HB1.out _ hg)
        have K2 := Lib.hid (K1.out.trans (kb.mono (by omega)))
        have R2 := Lib.hid q2.row
        have HB2 := Lib.hid (fun g (hg : rowBlk x2 d2 = some g) => (show wr.heap.size ≤ g from (q2.row.blk hg).1))
        have hR2 : RowsAt w2 (some ⟨g0, 0, none⟩) 5 Rq.cs es := (O.out.below K2.out).e.rows five_len
        have hT := hR2.tailG n0 c0 (fun h => by have := HN0.out; omega)
        clear hR2
        rw [if_neg hcz, Nat.zero_add] at hT
        have T := Lib.hid hT
        clear hT
        clear q2 ka kb aW bW cA lA lB K1 R1 RX
        have cA := cell_of_block a2
        have lA := lt_of_block a2
        have lB := lt_of_block b2
        go_upto_region 7 with (at_builtin; refine wpList_append_row rfl (.tmp 39) (.tmp 43) rfl (n0 + 1) eltEnt rfl rfl R2.out (ys := es.drop n0) T.out (by have := HN0.out; rw [List.length_append, List.length_take]; simp; omega) (by rw [List.length_drop, HN0.out] <;> omega) (by omega) (by simp only [maxLen]; omega) (by omega) (by omega) ?_; intro x3 d3 w3 q3; have cA3 := cell_of_block ((q3.grown.block w.heap.size (by omega) (fun e => by have := HB2.out _ e.symm; omega)).trans a2); have fA3 := unfrozen_of_block ((q3.grown.block w.heap.size (by omega) (fun e => by have := HB2.out _ e.symm; omega)).trans a2))
        obtain ⟨V, hV⟩ : ∃ V, V = w3.setCell ⟨w.heap.size, 0, none⟩ (.slice x3 (n0 + 1) d3) := ⟨_, rfl⟩
        have a3 := (q3.grown.block w.heap.size (by omega) (fun e => by have := HB2.out _ e.symm; omega)).trans a2
        have b3 := (q3.grown.block (w.heap.size + 1) (by omega) (fun e => by have := HB2.out _ e.symm; omega)).trans b2
        have aV := block_setCell (i := 0) a3 (.slice x3 (n0 + 1) d3)
        have bV := (Below.heap_setCell w3 ⟨w.heap.size, 0, none⟩ (.slice x3 (n0 + 1) d3) _ (by simp)).trans b3
        have RE := Lib.hid (q3.row.setOther (p := ⟨w.heap.size, 0, none⟩) (by simp; omega) (.slice x3 (n0 + 1) d3))
        have KV := Lib.hid (Below.setCell (K2.out.grown q3.grown (by omega) (fun g hg => by have := HB2.out _ hg; omega)) (p := ⟨w.heap.size, 0, none⟩) (Nat.le_refl _) (.slice x3 (n0 + 1) d3))
        skip
        rw [← hV] at aV bV RE KV ⊢
        simp only [List.setIfInBounds_toArray, List.set] at aV
        clear hV q3 a3 b3 a2 b2 K2 cA3 fA3 HB2 cA lA lB
        have cA := cell_of_block aV
        have cB := cell_of_block bV
        have fB := unfrozen_of_block bV
        have lA := lt_of_block aV
        have lB := lt_of_block bV
        go_wp2_with fail
        refine bodyPost_ret (v := .agg #[.slice x3 (n0 + 1) d3, .slice a1 16 c1, .slice a2 n2 c2]) (by simp [results, Tryz.results62, go_sem, cB]) rfl ?_
        have hre := RE.out
        have KV' := KV.out
        rw [HJ.out]
        refine ⟨x3, d3, rfl, O.out.newE ?_ (B' := w.heap.size + 2) ?_ (by omega) hB, ?_⟩
        · exact (by repeat' (first | with_reducible exact Below.refl _ _ | with_reducible assumption | with_reducible refine Below.alloc ?_ ?_ _ | with_reducible refine Below.drew ?_ | with_reducible refine Below.setCell ?_ ?_ _ | omega | (simp; omega) | (simp; done)))
        · exact ((((hre.low (by omega)).setOther (by simp) _).setOther (by simp) _).setOther (by simp) _)
        · exact (by repeat' (first | with_reducible exact Below.refl _ _ | with_reducible assumption | with_reducible refine Below.alloc ?_ ?_ _ | with_reducible refine Below.drew ?_ | with_reducible refine Below.setCell ?_ ?_ _ | omega | (simp; omega) | (simp; done)))
set_option maxRecDepth 100000 in
set_option maxHeartbeats 8000000 in
theorem l2Join_n {B : Nat} {X : Nat → Prop} (fl la : List Int) (c : Int)  (n2 : Nat) (a1 a2 : Option Addr) (c1 c2 : Nat) (w : World) (h : OwnX X w B none 0 a1 c1 a2 c2 ⟨[], fl, la⟩) (hB : B ≤ w.heap.size) (hc : 1 ≤ c ∧ c ≤ 4) :
    Calls Tryz.prog 62 #[.agg #[.slice none 0 0, .slice a1 16 c1, .slice a2 n2 c2], .int .i64 c] w (JoinOut X B 0 n2 a1 a2 c1 c2 (joinE [] c) fl la w) := by
  have O := Lib.hid h
  clear h
  have hw1 : IntKind.i64.wrap (c - 1) = c - 1 := IntWalk.i64_in _ ⟨by omega, by omega⟩
  go_enter Tryz.func62, Tryz.ntmps62
  go_upto_region 1 with fail
  obtain ⟨W, hW, sW, aW, bW, kW⟩ := blocks2 w (.cells #[.slice none 0 0, .slice a1 16 c1, .slice a2 n2 c2] 27) (.cells #[.slice none 0 0, .slice none 0 0, .slice none 0 0] 27)
  rw [← hW]
  clear hW
  have HA := Lib.hid aW
  have HB := Lib.hid bW
  have HKW := Lib.hid kW
  have hl0 : w.heap.size < W.heap.size := by omega
  have hl1 : w.heap.size + 1 < W.heap.size := by omega
  clear aW bW kW sW
  go_wp2_with fail
  go_loopw [5] (fun i wr => i = .int .i64 0 ∧ Below W.heap.size W wr) (fun i _ => 0)
  case atStart => exact ⟨rfl, Below.refl _ _⟩
  case round =>
    obtain ⟨rfl, hbel⟩ := hrel
    have aW := carryN hbel HA.out
    have bW := carryN hbel HB.out
    have cA := cell_of_block aW
    have KW := Lib.hid (HKW.out.trans (hbel.mono (by omega)))
    have HJ := Lib.hid (joinE_at (es := []) (c := c) (k := 0) (Nat.le_refl _) (fun j hj => absurd hj (Nat.not_lt_zero j)) (fun h => absurd h (Nat.lt_irrefl 0)))
    have hsr := hbel.size
    have lA : w.heap.size < wr.heap.size := by omega
    have lB : w.heap.size + 1 < wr.heap.size := by omega
    go_upto_region 5 with (at_builtin; refine wpList_append_new (wr.heap.size + 1) rfl (.tmp 24) (.tmp 28) rfl eltEnt rfl rfl (ys := ([] : List Rq).take 0) (by simp only [List.take_nil]; exact RowsAt.empty _ _ _ _) (rfl) (by simp only [maxLen]; omega) (by omega) (by simp <;> omega) ?_; intro x1 d1 w1 q1)
    have k1 := ((Below.refl wr.heap.size wr).alloc (Nat.le_refl _) (.cells #[] 44)).trans (q1.below.mono (by simp <;> omega))
    replace aW := carryN k1 aW
    replace bW := carryN k1 bW
    have K1 := Lib.hid (below_next KW.out k1)
    have R1 := Lib.hid (show Row w1 wr.heap.size 44 x1 d1 5 Rq.cs (([] : List Rq).take 0) from q1.row.low (Nat.le_succ _))
    have HB1 := Lib.hid (fun g (hg : rowBlk x1 d1 = some g) => (show wr.heap.size ≤ g from Nat.le_trans (Nat.le_succ _) (q1.row.blk hg).1))
    have s1 := k1.size
    clear q1 k1 cA lA lB KW
    have cA := cell_of_block aW
    have lA := lt_of_block aW
    have lB := lt_of_block bW
    obtain ⟨X, hX⟩ : ∃ X, X = w1.alloc (.cells #[.int .i64 c, .int .i64 (c - 1), .int .i64 (c - 1), .int .i64 3, .int .i64 0] 44) := ⟨_, rfl⟩
    have RX := Lib.hid (rowsAt_ent w1 ⟨c, c - 1, c - 1, 3, 0⟩ 44)
    go_upto_region 6 with (at_builtin; refine wpList_append_row rfl (.tmp 30) (.tmp 37) rfl (0 + 1) eltEnt rfl rfl (R1.out.alloc _) RX.out (rfl) rfl rfl (by simp only [maxLen]; omega) (by omega) (by simp; omega) ?_; intro x2 d2 w2 q2)
    clear hX X
    have s2 := q2.grown.size
    rw [World.size_alloc] at s2
    have ka := (Below.refl w1.heap.size w1).alloc (Nat.le_refl _) (.cells #[.int .i64 c, .int .i64 (c - 1), .int .i64 (c - 1), .int .i64 3, .int .i64 0] 44)
    have a2 := (q2.grown.block w.heap.size (by simp; omega) (fun e => by have := HB1.out _ e.symm; omega)).trans (carryN ka aW)
    have b2 := (q2.grown.block (w.heap.size + 1) (by simp; omega) (fun e => by have := HB1.out _ e.symm; omega)).trans (carryN ka bW)
    have kb : Below wr.heap.size w1 w2 := (ka.mono s1).grown q2.grown (by simp; omega) (fun g hg => HB1.out _ hg)
    have K2 := Lib.hid (K1.out.trans (kb.mono (by omega)))
    have R2 := Lib.hid q2.row
    have HB2 := Lib.hid (fun g (hg : rowBlk x2 d2 = some g) => (show wr.heap.size ≤ g from (q2.row.blk hg).1))
    clear q2 ka kb aW bW cA lA lB K1 R1 RX
    have cA := cell_of_block a2
    have lA := lt_of_block a2
    have lB := lt_of_block b2
    go_upto_region 7 with (at_builtin; refine wpList_append_row rfl (.tmp 39) (.tmp 43) rfl (0 + 1) eltEnt rfl rfl R2.out (ys := ([] : List Rq)) (RowsAt.empty _ _ _ _) (rfl) (rfl) (by omega) (by simp only [maxLen]; omega) (by omega) (by omega) ?_; intro x3 d3 w3 q3; have cA3 := cell_of_block ((q3.grown.block w.heap.size (by omega) (fun e => by have := HB2.out _ e.symm; omega)).trans a2); have fA3 := unfrozen_of_block ((q3.grown.block w.heap.size (by omega) (fun e => by have := HB2.out _ e.symm; omega)).trans a2))
    obtain ⟨V, hV⟩ : ∃ V, V = w3.setCell ⟨w.heap.size, 0, none⟩ (.slice x3 (0 + 1) d3) := ⟨_, rfl⟩
    have a3 := (q3.grown.block w.heap.size (by omega) (fun e => by have := HB2.out _ e.symm; omega)).trans a2
    have b3 := (q3.grown.block (w.heap.size + 1) (by omega) (fun e => by have := HB2.out _ e.symm; omega)).trans b2
    have aV := block_setCell (i := 0) a3 (.slice x3 (0 + 1) d3)
    have bV := (Below.heap_setCell w3 ⟨w.heap.size, 0, none⟩ (.slice x3 (0 + 1) d3) _ (by simp)).trans b3
    have RE := Lib.hid (q3.row.setOther (p := ⟨w.heap.size, 0, none⟩) (by simp; omega) (.slice x3 (0 + 1) d3))
    have KV := Lib.hid (Below.setCell (K2.out.grown q3.grown (by omega) (fun g hg => by have := HB2.out _ hg; omega)) (p := ⟨w.heap.size, 0, none⟩) (Nat.le_refl _) (.slice x3 (0 + 1) d3))
    simp only [Nat.zero_add] at aV bV RE KV hV
    rw [← hV] at aV bV RE KV ⊢
    simp only [List.setIfInBounds_toArray, List.set] at aV
    clear hV q3 a3 b3 a2 b2 K2 cA3 fA3 HB2 cA lA lB
    have cA := cell_of_block aV
    have cB := cell_of_block bV
    have fB := unfrozen_of_block bV
    have lA := lt_of_block aV
    have lB := lt_of_block bV
    go_wp2_with fail
    refine bodyPost_ret (v := .agg #[.slice x3 (1) d3, .slice a1 16 c1, .slice a2 n2 c2]) (by simp [results, Tryz.results62, go_sem, cB]) rfl ?_
    have hre := RE.out
    have KV' := KV.out
    rw [HJ.out]
    refine ⟨x3, d3, rfl, O.out.newE ?_ (B' := w.heap.size + 2) ?_ (by omega) hB, ?_⟩
    · exact (by repeat' (first | with_reducible exact Below.refl _ _ | with_reducible assumption | with_reducible refine Below.alloc ?_ ?_ _ | with_reducible refine Below.drew ?_ | with_reducible refine Below.setCell ?_ ?_ _ | omega | (simp; omega) | (simp; done)))
    · exact ((((hre.low (by omega)).setOther (by simp) _).setOther (by simp) _).setOther (by simp) _)
    · exact (by repeat' (first | with_reducible exact Below.refl _ _ | with_reducible assumption | with_reducible refine Below.alloc ?_ ?_ _ | with_reducible refine Below.drew ?_ | with_reducible refine Below.setCell ?_ ?_ _ | omega | (simp; omega) | (simp; done)))
set_option maxRecDepth 100000 in
set_option maxHeartbeats 8000000 in
theorem l2Join_s {B : Nat} {X : Nat → Prop} (fl la : List Int) (c : Int) (ad : Addr) (n2 : Nat) (a1 a2 : Option Addr) (c1 c2 : Nat) (w : World) (h : OwnX X w B (some ad) 0 a1 c1 a2 c2 ⟨[], fl, la⟩) (hB : B ≤ w.heap.size) (hc : 1 ≤ c ∧ c ≤ 4) :
    Calls Tryz.prog 62 #[.agg #[.slice (some ad) 0 0, .slice a1 16 c1, .slice a2 n2 c2], .int .i64 c] w (JoinOut X B 0 n2 a1 a2 c1 c2 (joinE [] c) fl la w) := by
  have O := Lib.hid h
  clear h
  have hw1 : IntKind.i64.wrap (c - 1) = c - 1 := IntWalk.i64_in _ ⟨by omega, by omega⟩
  go_enter Tryz.func62, Tryz.ntmps62
  go_upto_region 1 with fail
  obtain ⟨W, hW, sW, aW, bW, kW⟩ := blocks2 w (.cells #[.slice (some ad) 0 0, .slice a1 16 c1, .slice a2 n2 c2] 27) (.cells #[.slice none 0 0, .slice none 0 0, .slice none 0 0] 27)
  rw [← hW]
  clear hW
  have HA := Lib.hid aW
  have HB := Lib.hid bW
  have HKW := Lib.hid kW
  have hl0 : w.heap.size < W.heap.size := by omega
  have hl1 : w.heap.size + 1 < W.heap.size := by omega
  clear aW bW kW sW
  go_wp2_with fail
  go_loopw [5] (fun i wr => i = .int .i64 0 ∧ Below W.heap.size W wr) (fun i _ => 0)
  case atStart => exact ⟨rfl, Below.refl _ _⟩
  case round =>
    obtain ⟨rfl, hbel⟩ := hrel
    have aW := carryN hbel HA.out
    have bW := carryN hbel HB.out
    have cA := cell_of_block aW
    have KW := Lib.hid (HKW.out.trans (hbel.mono (by omega)))
    have HJ := Lib.hid (joinE_at (es := []) (c := c) (k := 0) (Nat.le_refl _) (fun j hj => absurd hj (Nat.not_lt_zero j)) (fun h => absurd h (Nat.lt_irrefl 0)))
    have hsr := hbel.size
    have lA : w.heap.size < wr.heap.size := by omega
    have lB : w.heap.size + 1 < wr.heap.size := by omega
    go_upto_region 5 with (at_builtin; refine wpList_append_new (wr.heap.size + 1) rfl (.tmp 24) (.tmp 28) rfl eltEnt rfl rfl (ys := ([] : List Rq).take 0) (by simp only [List.take_nil]; exact RowsAt.empty _ _ _ _) (rfl) (by simp only [maxLen]; omega) (by omega) (by simp <;> omega) ?_; intro x1 d1 w1 q1)
    have k1 := ((Below.refl wr.heap.size wr).alloc (Nat.le_refl _) (.cells #[] 44)).trans (q1.below.mono (by simp <;> omega))
    replace aW := carryN k1 aW
    replace bW := carryN k1 bW
    have K1 := Lib.hid (below_next KW.out k1)
    have R1 := Lib.hid (show Row w1 wr.heap.size 44 x1 d1 5 Rq.cs (([] : List Rq).take 0) from q1.row.low (Nat.le_succ _))
    have HB1 := Lib.hid (fun g (hg : rowBlk x1 d1 = some g) => (show wr.heap.size ≤ g from Nat.le_trans (Nat.le_succ _) (q1.row.blk hg).1))
    have s1 := k1.size
    clear q1 k1 cA lA lB KW
    have cA := cell_of_block aW
    have lA := lt_of_block aW
    have lB := lt_of_block bW
    obtain ⟨X, hX⟩ : ∃ X, X = w1.alloc (.cells #[.int .i64 c, .int .i64 (c - 1), .int .i64 (c - 1), .int .i64 3, .int .i64 0] 44) := ⟨_, rfl⟩
    have RX := Lib.hid (rowsAt_ent w1 ⟨c, c - 1, c - 1, 3, 0⟩ 44)
    go_upto_region 6 with (at_builtin; refine wpList_append_row rfl (.tmp 30) (.tmp 37) rfl (0 + 1) eltEnt rfl rfl (R1.out.alloc _) RX.out (rfl) rfl rfl (by simp only [maxLen]; omega) (by omega) (by simp; omega) ?_; intro x2 d2 w2 q2)
    clear hX X
    have s2 := q2.grown.size
    rw [World.size_alloc] at s2
    have ka := (Below.refl w1.heap.size w1).alloc (Nat.le_refl _) (.cells #[.int .i64 c, .int .i64 (c - 1), .int .i64 (c - 1), .int .i64 3, .int .i64 0] 44)
    have a2 := (q2.grown.block w.heap.size (by simp; omega) (fun e => by have := HB1.out _ e.symm; omega)).trans (carryN ka aW)
    have b2 := (q2.grown.block (w.heap.size + 1) (by simp; omega) (fun e => by have := HB1.out _ e.symm; omega)).trans (carryN ka bW)
    have kb : Below wr.heap.size w1 w2 := (ka.mono s1).grown q2.grown (by simp; omega) (fun g hg => HB1.out _ hg)
    have K2 := Lib.hid (K1.out.trans (kb.mono (by omega)))
    have R2 := Lib.hid q2.row
    have HB2 := Lib.hid (fun g (hg : rowBlk x2 d2 = some g) => (show wr.heap.size ≤ g from (q2.row.blk hg).1))
    clear q2 ka kb aW bW cA lA lB K1 R1 RX
    have cA := cell_of_block a2
    have lA := lt_of_block a2
    have lB := lt_of_block b2
    go_upto_region 7 with (at_builtin; refine wpList_append_row rfl (.tmp 39) (.tmp 43) rfl (0 + 1) eltEnt rfl rfl R2.out (ys := ([] : List Rq)) (RowsAt.empty _ _ _ _) (rfl) (rfl) (by omega) (by simp only [maxLen]; omega) (by omega) (by omega) ?_; intro x3 d3 w3 q3; have cA3 := cell_of_block ((q3.grown.block w.heap.size (by omega) (fun e => by have := HB2.out _ e.symm; omega)).trans a2); have fA3 := unfrozen_of_block ((q3.grown.block w.heap.size (by omega) (fun e => by have := HB2.out _ e.symm; omega)).trans a2))
    obtain ⟨V, hV⟩ : ∃ V, V = w3.setCell ⟨w.heap.size, 0, none⟩ (.slice x3 (0 + 1) d3) := ⟨_, rfl⟩
    have a3 := (q3.grown.block w.heap.size (by omega) (fun e => by have := HB2.out _ e.symm; omega)).trans a2
    have b3 := (q3.grown.block (w.heap.size + 1) (by omega) (fun e => by have := HB2.out _ e.symm; omega)).trans b2
    have aV := block_setCell (i := 0) a3 (.slice x3 (0 + 1) d3)
    have bV := (Below.heap_setCell w3 ⟨w.heap.size, 0, none⟩ (.slice x3 (0 + 1) d3) _ (by simp)).trans b3
    have RE := Lib.hid (q3.row.setOther (p := ⟨w.heap.size, 0, none⟩) (by simp; omega) (.slice x3 (0 + 1) d3))
    have KV := Lib.hid (Below.setCell (K2.out.grown q3.grown (by omega) (fun g hg => by have := HB2.out _ hg; omega)) (p := ⟨w.heap.size, 0, none⟩) (Nat.le_refl _) (.slice x3 (0 + 1) d3))
    simp only [Nat.zero_add] at aV bV RE KV hV
    rw [← hV] at aV bV RE KV ⊢
    simp only [List.setIfInBounds_toArray, List.set] at aV
    clear hV q3 a3 b3 a2 b2 K2 cA3 fA3 HB2 cA lA lB
    have cA := cell_of_block aV
    have cB := cell_of_block bV
    have fB := unfrozen_of_block bV
    have lA := lt_of_block aV
    have lB := lt_of_block bV
    go_wp2_with fail
    refine bodyPost_ret (v := .agg #[.slice x3 (1) d3, .slice a1 16 c1, .slice a2 n2 c2]) (by simp [results, Tryz.results62, go_sem, cB]) rfl ?_
    have hre := RE.out
    have KV' := KV.out
    rw [HJ.out]
    refine ⟨x3, d3, rfl, O.out.newE ?_ (B' := w.heap.size + 2) ?_ (by omega) hB, ?_⟩
    · exact (by repeat' (first | with_reducible exact Below.refl _ _ | with_reducible assumption | with_reducible refine Below.alloc ?_ ?_ _ | with_reducible refine Below.drew ?_ | with_reducible refine Below.setCell ?_ ?_ _ | omega | (simp; omega) | (simp; done)))
    · exact ((((hre.low (by omega)).setOther (by simp) _).setOther (by simp) _).setOther (by simp) _)
    · exact (by repeat' (first | with_reducible exact Below.refl _ _ | with_reducible assumption | with_reducible refine Below.alloc ?_ ?_ _ | with_reducible refine Below.drew ?_ | with_reducible refine Below.setCell ?_ ?_ _ | omega | (simp; omega) | (simp; done)))
/-- Of whatever rows. -/
theorem l2Join_c {B : Nat} {X : Nat → Prop} (es : List Rq) (fl la : List Int) (c : Int) (n0 n2 c0 : Nat) (a0 a1 a2 : Option Addr) (c1 c2 : Nat) (w : World) (h : OwnX X w B a0 c0 a1 c1 a2 c2 ⟨es, fl, la⟩) (hn0 : es.length = n0) (h4 : n0 ≤ 4) (hB : B ≤ w.heap.size) (hc : 1 ≤ c ∧ c ≤ 4) :
    Calls Tryz.prog 62 #[.agg #[.slice a0 n0 c0, .slice a1 16 c1, .slice a2 n2 c2], .int .i64 c] w (JoinOut X B n0 n2 a1 a2 c1 c2 (joinE es c) fl la w) := by
  by_cases hc0 : 0 < c0
  · obtain ⟨g, cur, rfl, -⟩ := h.e.own hc0
    exact l2Join_b es fl la c g n0 c0 hc0 n2 a1 a2 c1 c2 w h hn0 h4 hB hc
  · have h1 := h.e.len
    simp only at h1
    have e1 : es = [] := List.eq_nil_of_length_eq_zero (by omega)
    have e2 : n0 = 0 := by omega
    have e3 : c0 = 0 := by omega
    subst e1 e2 e3
    cases a0 with
    | none => exact l2Join_n fl la c n2 a1 a2 c1 c2 w h hB hc
    | some ad => exact l2Join_s fl la c ad n2 a1 a2 c1 c2 w h hB hc
end Go.Proofs.YtilldpoleiippaaGreatDoor
