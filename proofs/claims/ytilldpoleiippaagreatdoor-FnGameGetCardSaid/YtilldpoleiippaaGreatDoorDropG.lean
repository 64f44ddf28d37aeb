/- The reference's l2Drop; condition: small sizes. -/
import Derived.Test.YtilldpoleiippaaGreatDoorOwnG
import Derived.Test.YtilldpoleiippaaGreatDoorOwnX
import Derived.Test.YtilldpoleiippaaGreatDoorFigLaw
import Derived.StillTailTactics
set_option linter.unusedSimpArgs false
set_option linter.unusedVariables false
namespace Go.Proofs.YtilldpoleiippaaGreatDoor
open Go.RowKit Go.Joins

set_option maxRecDepth 100000 in
set_option maxHeartbeats 8000000 in
theorem l2Drop_c {B : Nat} {X : Nat → Prop} (es : List Rq) (fl la : List Int) (k n0 n2 : Nat) (a0 a1 a2 : Option Addr) (c0 c1 c2 : Nat) (w : World) (h : OwnX X w B a0 c0 a1 c1 a2 c2 ⟨es, fl, la⟩) (hn0 : es.length = n0) (hn1 : fl.length = 16) (hk : k < n0) (h4 : n0 ≤ 4) (hB : B ≤ w.heap.size)
    (he : (0 ≤ (entN es k).n ∧ (entN es k).n ≤ 3) ∧ (0 ≤ (entN es k).o ∧ (entN es k).o ≤ 3) ∧ (0 ≤ (entN es k).y ∧ (entN es k).y ≤ 20)) (hf : ∀ n ∈ fl, 0 ≤ n ∧ n ≤ 20) :
    Calls Tryz.prog 88 #[.agg #[.slice a0 n0 c0, .slice a1 16 c1, .slice a2 n2 c2], .int .i64 k] w fun e w' => ∃ b0 d0 b1 d1, e = .returned (.agg #[.slice b0 (n0 - 1 : Nat) d0, .slice b1 16 d1, .slice a2 n2 c2]) ∧ OwnX X w' B b0 d0 b1 d1 a2 c2 ⟨es.eraseIdx k, addAt fl (sqOf (entN es k)) (entN es k).y, la⟩ ∧ Below w.heap.size w w' := by
  have hkz : k < es.length := by omega
  rw [entN_get hkz] at he ⊢
  have O := Lib.hid h
  have HN0 := Lib.hid hn0
  have HN1 := Lib.hid hn1
  have HF := Lib.hid hf
  have hle0 : n0 ≤ c0 := by have := h.e.len; simp only at this; omega
  have hle1 : 16 ≤ c1 := by have := h.f.len; simp only at this; omega
  have hc0m := h.e.max
  unfold maxLen at hc0m
  obtain ⟨g0, hg0, hgB, hgl, e0, e1, e2, e3, e4, ef, hr0⟩ := h.e.entAt (i := k) (by simp only; omega)
  simp only at e0 e1 e2 e3 e4
  subst hg0
  generalize hz : es[k] = z at *
  have HZ := Lib.hid hz
  clear hf h hz ef hn0 hn1
  go_enter Tryz.func88, Tryz.ntmps88
  go_upto_region 1 with fail
  obtain ⟨W, hW, sW, aW, bW, kW⟩ := blocks2 w (.cells #[.slice (some ⟨g0, 0, none⟩) n0 c0, .slice a1 16 c1, .slice a2 n2 c2] 27) (.cells #[.slice none 0 0, .slice none 0 0, .slice none 0 0] 27)
  rw [← hW]
  clear hW
  have f0 : W.cell? ⟨g0, k * 5, none⟩ = _ := (kW.cell (p := ⟨g0, _, none⟩) hgl).trans e0
  have f1 : W.cell? ⟨g0, k * 5 + 1, none⟩ = _ := (kW.cell (p := ⟨g0, _, none⟩) hgl).trans e1
  have f2 : W.cell? ⟨g0, k * 5 + 2, none⟩ = _ := (kW.cell (p := ⟨g0, _, none⟩) hgl).trans e2
  have f3 : W.cell? ⟨g0, k * 5 + 3, none⟩ = _ := (kW.cell (p := ⟨g0, _, none⟩) hgl).trans e3
  have f4 : W.cell? ⟨g0, k * 5 + 4, none⟩ = _ := (kW.cell (p := ⟨g0, _, none⟩) hgl).trans e4
  have hk0 : (0 : Int) ≤ (k : Int) := by omega
  have hk1 : (k : Int) < (n0 : Int) := by omega
  have cW := cell_of_block aW
  clear e0 e1 e2 e3 e4
  obtain ⟨q, hq, hq2⟩ : ∃ q : Nat, z.o * 4 + z.n = (q : Int) ∧ q < 16 := ⟨(z.o * 4 + z.n).toNat, by omega, by omega⟩
  have HS := Lib.hid (show sqOf z = q by unfold sqOf; omega)
  have hm1 : IntKind.i64.wrap (z.o * 4) = z.o * 4 := IntWalk.i64_in _ ⟨by omega, by omega⟩
  have hm2 : IntKind.i64.wrap (z.o * 4 + z.n) = z.o * 4 + z.n := IntWalk.i64_in _ ⟨by omega, by omega⟩
  go_upto_region 3 with fail
  clear hm1 hm2 hq f0 f1 f2 f3 f4 cW
  obtain ⟨X, hX, sX, dX, kX⟩ := blocks1 W (.cells #[.int .i64 z.c, .int .i64 z.n, .int .i64 z.o, .int .i64 z.x, .int .i64 z.y] 44)
  rw [← hX]
  clear hX
  replace aW := carryN kX aW
  replace bW := carryN kX bW
  have KX := below_next kW kX
  have cW := cell_of_block aW
  have HFR := Lib.hid ((O.out.below KX).f.rows int_len)
  have HK := Lib.hid KX
  clear kW kX KX
  go_upto_region 4 with (at_builtin; refine wpList_append_new (X.heap.size + 1) rfl (.tmp 19) (.tmp 21) rfl eltInt rfl rfl (HFR.out.below (by repeat' (first | with_reducible exact Below.refl _ _ | with_reducible assumption | with_reducible refine Below.alloc ?_ ?_ _ | with_reducible refine Below.drew ?_ | with_reducible refine Below.setCell ?_ ?_ _ | omega | (simp; omega) | (simp; done)))) HN1.out (by simp only [maxLen]; omega) (by omega) (by simp <;> omega) ?_; intro x1 d1 w1 q1; have k1 := ((Below.refl X.heap.size X).alloc (Nat.le_refl _) (.cells #[] 3)).trans (q1.below.mono (by simp <;> omega)); have cW := cell_of_block (carryN k1 aW); have fW := unfrozen_of_block (carryN k1 aW))
  obtain ⟨Y, hY⟩ : ∃ Y, Y = w1.setCell ⟨w.heap.size, 1, none⟩ (.slice x1 16 d1) := ⟨_, rfl⟩
  have R1 := Lib.hid (show Row (w1.setCell ⟨w.heap.size, 1, none⟩ (.slice x1 16 d1)) (X.heap.size + 1) 3 x1 d1 1 intR fl from q1.row.setOther (p := ⟨w.heap.size, 1, none⟩) (by simp; omega) (.slice x1 16 d1))
  have aY := block_setCell (i := 1) (carryN k1 aW) (.slice x1 16 d1)
  have bY := (Below.heap_setCell w1 ⟨w.heap.size, 1, none⟩ (.slice x1 16 d1) _ (by simp)).trans (carryN k1 bW)
  have dY := (Below.heap_setCell w1 ⟨w.heap.size, 1, none⟩ (.slice x1 16 d1) _ (by simp; omega)).trans (carryN k1 dX)
  have KY := Lib.hid (Below.setCell (below_next HK.out k1) (p := ⟨w.heap.size, 1, none⟩) (Nat.le_refl _) (.slice x1 16 d1))
  have sY : w1.heap.size = (w1.setCell ⟨w.heap.size, 1, none⟩ (.slice x1 16 d1)).heap.size := by simp
  have s1 := k1.size
  rw [← hY] at R1 aY bY dY KY sY ⊢
  rw [sW] at dY
  simp only [List.setIfInBounds_toArray, List.set] at aY
  clear hY q1 k1 cW fW aW bW dX HFR
  obtain ⟨f, hf, hfB, hfl, ef, ff, hrf⟩ := R1.out.intAt (i := q) (by rw [HN1.out]; exact hq2)
  have hqz : q < fl.length := by rw [HN1.out]; exact hq2
  have hfq := HF.out _ (List.getElem_mem hqz)
  subst hf
  have R2 := Lib.hid (R1.out.setInt hqz (fl[q] + z.y)).drew
  have HAD := Lib.hid (show fl.set q (fl[q] + z.y) = addAt fl q z.y by unfold addAt; rw [List.getD_eq_getElem?_getD, List.getElem?_eq_getElem hqz]; rfl)
  generalize hfv : fl[q] = v at *
  have hm3 : IntKind.i64.wrap (v + z.y) = v + z.y := IntWalk.i64_in _ ⟨by omega, by omega⟩
  have hq0 : (0 : Int) ≤ (q : Int) := by omega
  have hq1 : (q : Int) < 16 := by omega
  have cY := cell_of_block aY
  have eY := cell_of_block dY
  go_wp2_with fail
  go_still_tail 12, (by kernel_rfl)
  change wpList _ _ _ _ _ Y.drew
  go_upto_region 5 with fail
  obtain ⟨Z, hZ⟩ : ∃ Z, Z = (Y.setCell ⟨f, q, none⟩ (.int .i64 (v + z.y))).drew := ⟨_, rfl⟩
  have aZ : (Y.setCell ⟨f, q, none⟩ (.int .i64 (v + z.y))).drew.heap[w.heap.size]? = _ := (Below.heap_setCell Y ⟨f, q, none⟩ (.int .i64 (v + z.y)) _ (by simp; omega)).trans aY
  have bZ : (Y.setCell ⟨f, q, none⟩ (.int .i64 (v + z.y))).drew.heap[w.heap.size + 1]? = _ := (Below.heap_setCell Y ⟨f, q, none⟩ (.int .i64 (v + z.y)) _ (by simp; omega)).trans bY
  have KZ := Lib.hid (Below.setCell KY.out (p := ⟨f, q, none⟩) (show w.heap.size ≤ f by omega) (.int .i64 (v + z.y))).drew
  have sZ : Y.heap.size = (Y.setCell ⟨f, q, none⟩ (.int .i64 (v + z.y))).drew.heap.size := by simp
  rw [← hZ] at R2 aZ bZ KZ sZ ⊢
  have hfZ : f < Z.heap.size := by omega
  have hZs : w.heap.size + 2 < Z.heap.size := by omega
  clear sZ sY s1
  clear hZ aY bY dY cY eY R1 KY ef ff hm3
  have cZ := cell_of_block aZ
  have lZ := lt_of_block aZ
  have HRE := Lib.hid ((O.out.below KZ.out).e.rows five_len)
  have hkc : (k : Int) ≤ (c0 : Int) := by omega
  go_upto_region 6 with (at_builtin; refine wpList_append_new (Z.heap.size + 1) rfl (.tmp 36) (.tmp 40) rfl eltEnt rfl rfl ((HRE.out.takeG k).below (by repeat' (first | with_reducible exact Below.refl _ _ | with_reducible assumption | with_reducible refine Below.alloc ?_ ?_ _ | with_reducible refine Below.drew ?_ | with_reducible refine Below.setCell ?_ ?_ _ | omega | (simp; omega) | (simp; done)))) (by have := HN0.out; simp only [List.length_take]; omega) (by simp only [maxLen]; omega) (by omega) (by simp <;> omega) ?_; intro x2 d2 w2 q2)
  have k2 := ((Below.refl Z.heap.size Z).alloc (Nat.le_refl _) (.cells #[] 44)).trans (q2.below.mono (by simp <;> omega))
  replace aZ := carryN k2 aZ
  replace bZ := carryN k2 bZ
  have K2 := Lib.hid (below_next KZ.out k2)
  have R3 := Lib.hid (show Row w2 Z.heap.size 44 x2 d2 5 Rq.cs (es.take k) from q2.row.low (Nat.le_succ _))
  have HB3 := Lib.hid (fun g (hg : rowBlk x2 d2 = some g) => q2.row.blk hg)
  have RF := Lib.hid (R2.out.below k2)
  have HR2 := Lib.hid (HRE.out.below k2)
  have s2 := k2.size
  clear q2 k2 R2 HRE KZ cZ lZ
  have cZ := cell_of_block aZ
  have lZ := lt_of_block aZ
  have hw1 : IntKind.i64.wrap ((k : Int) + 1) = (k : Int) + 1 := IntWalk.i64_in _ ⟨by omega, by omega⟩
  have hk2 : (0 : Int) ≤ (k : Int) + 1 := by omega
  have hk3 : (k : Int) + 1 ≤ (c0 : Int) := by omega
  have hk4 : (k : Int) + 1 ≤ (n0 : Int) := by omega
  have hT := HR2.out.tailG (k + 1) c0 (fun h => by have := HN0.out; simp only; omega)
  by_cases hcz : c0 = k + 1
  · rw [if_pos hcz] at hT
    have T := Lib.hid hT
    clear hT HR2
    go_upto_region 7 with (at_builtin; refine wpList_append_row rfl (.tmp 42) (.tmp 47) rfl (n0 - 1) eltEnt rfl rfl R3.out (ys := es.drop (k + 1)) T.out (by have := HN0.out; rw [List.length_take]; omega) (by rw [List.length_drop, HN0.out]) (by omega) (by simp only [maxLen]; omega) (by omega) (by omega) ?_; intro x3 d3 w3 q3; have cZ3 := cell_of_block ((q3.grown.block w.heap.size (by omega) (fun e => by have := HB3.out _ e.symm; omega)).trans aZ); have fZ3 := unfrozen_of_block ((q3.grown.block w.heap.size (by omega) (fun e => by have := HB3.out _ e.symm; omega)).trans aZ))
    obtain ⟨V, hV⟩ : ∃ V, V = w3.setCell ⟨w.heap.size, 0, none⟩ (.slice x3 (n0 - 1) d3) := ⟨_, rfl⟩
    have a3 := (q3.grown.block w.heap.size (by omega) (fun e => by have := HB3.out _ e.symm; omega)).trans aZ
    have b3 := (q3.grown.block (w.heap.size + 1) (by omega) (fun e => by have := HB3.out _ e.symm; omega)).trans bZ
    have aV := block_setCell (i := 0) a3 (.slice x3 (n0 - 1) d3)
    have bV := (Below.heap_setCell w3 ⟨w.heap.size, 0, none⟩ (.slice x3 (n0 - 1) d3) _ (by simp)).trans b3
    have RE := Lib.hid (q3.row.setOther (p := ⟨w.heap.size, 0, none⟩) (by simp; omega) (.slice x3 (n0 - 1) d3))
    have RG := Lib.hid ((RF.out.kept q3.grown (fun g hg e => by rw [hrf] at hg; injection hg with hg; have := HB3.out _ e; omega)).setOther (p := ⟨w.heap.size, 0, none⟩) (by simp; omega) (.slice x3 (n0 - 1) d3))
    have KV := Lib.hid (Below.setCell (K2.out.grown q3.grown (by omega) (fun g hg => by have := HB3.out _ hg; omega)) (p := ⟨w.heap.size, 0, none⟩) (Nat.le_refl _) (.slice x3 (n0 - 1) d3))
    rw [← hV] at aV bV RE RG KV ⊢
    simp only [List.setIfInBounds_toArray, List.set] at aV
    clear hV q3 a3 b3 aZ bZ cZ R3 RF K2 cZ3 fZ3 T HB3 cW
    have cA := cell_of_block aV
    have cB := cell_of_block bV
    have fB := unfrozen_of_block bV
    have lA := lt_of_block aV
    have lB := lt_of_block bV
    go_wp2_with fail
    refine bodyPost_ret (v := .agg #[.slice x3 (n0 - 1) d3, .slice (some ⟨f, 0, none⟩) 16 d1, .slice a2 n2 c2]) (by simp [results, Tryz.results88, go_sem, cB]) rfl ?_
    have he : es.take k ++ es.drop (k + 1) = es.eraseIdx k := (List.eraseIdx_eq_take_drop_succ es k).symm
    have hre := RE.out
    have hrg := RG.out
    have KV' := KV.out
    rw [he] at hre
    rw [HAD.out] at hrg
    rw [HS.out]
    refine ⟨x3, d3, some ⟨f, 0, none⟩, d1, rfl, O.out.newEF ?_ (B1 := Z.heap.size) (B2 := w.heap.size + 2) ?_ ?_ (by omega) (by omega) hB ?_, ?_⟩
    · exact (by repeat' (first | with_reducible exact Below.refl _ _ | with_reducible assumption | with_reducible refine Below.alloc ?_ ?_ _ | with_reducible refine Below.drew ?_ | with_reducible refine Below.setCell ?_ ?_ _ | omega | (simp; omega) | (simp; done)))
    · exact (((hre.setOther (by simp; omega) _).setOther (by simp; omega) _).setOther (by simp; omega) _)
    · exact (((((hrg.low (by omega)).setOther (by simp) _).setOther (by simp) _).setOther (by simp) _))
    · intro g e1 e2
      rw [hrf] at e2
      injection e2 with e2
      have := (hre.blk e1).1
      omega
    · exact (by repeat' (first | with_reducible exact Below.refl _ _ | with_reducible assumption | with_reducible refine Below.alloc ?_ ?_ _ | with_reducible refine Below.drew ?_ | with_reducible refine Below.setCell ?_ ?_ _ | omega | (simp; omega) | (simp; done)))
  · rw [if_neg hcz, Nat.zero_add] at hT
    have T := Lib.hid hT
    clear hT HR2
    go_upto_region 7 with (at_builtin; refine wpList_append_row rfl (.tmp 42) (.tmp 47) rfl (n0 - 1) eltEnt rfl rfl R3.out (ys := es.drop (k + 1)) T.out (by have := HN0.out; rw [List.length_take]; omega) (by rw [List.length_drop, HN0.out]) (by omega) (by simp only [maxLen]; omega) (by omega) (by omega) ?_; intro x3 d3 w3 q3; have cZ3 := cell_of_block ((q3.grown.block w.heap.size (by omega) (fun e => by have := HB3.out _ e.symm; omega)).trans aZ); have fZ3 := unfrozen_of_block ((q3.grown.block w.heap.size (by omega) (fun e => by have := HB3.out _ e.symm; omega)).trans aZ))
    obtain ⟨V, hV⟩ : ∃ V, V = w3.setCell ⟨w.heap.size, 0, none⟩ (.slice x3 (n0 - 1) d3) := ⟨_, rfl⟩
    have a3 := (q3.grown.block w.heap.size (by omega) (fun e => by have := HB3.out _ e.symm; omega)).trans aZ
    have b3 := (q3.grown.block (w.heap.size + 1) (by omega) (fun e => by have := HB3.out _ e.symm; omega)).trans bZ
    have aV := block_setCell (i := 0) a3 (.slice x3 (n0 - 1) d3)
    have bV := (Below.heap_setCell w3 ⟨w.heap.size, 0, none⟩ (.slice x3 (n0 - 1) d3) _ (by simp)).trans b3
    have RE := Lib.hid (q3.row.setOther (p := ⟨w.heap.size, 0, none⟩) (by simp; omega) (.slice x3 (n0 - 1) d3))
    have RG := Lib.hid ((RF.out.kept q3.grown (fun g hg e => by rw [hrf] at hg; injection hg with hg; have := HB3.out _ e; omega)).setOther (p := ⟨w.heap.size, 0, none⟩) (by simp; omega) (.slice x3 (n0 - 1) d3))
    have KV := Lib.hid (Below.setCell (K2.out.grown q3.grown (by omega) (fun g hg => by have := HB3.out _ hg; omega)) (p := ⟨w.heap.size, 0, none⟩) (Nat.le_refl _) (.slice x3 (n0 - 1) d3))
    rw [← hV] at aV bV RE RG KV ⊢
    simp only [List.setIfInBounds_toArray, List.set] at aV
    clear hV q3 a3 b3 aZ bZ cZ R3 RF K2 cZ3 fZ3 T HB3 cW
    have cA := cell_of_block aV
    have cB := cell_of_block bV
    have fB := unfrozen_of_block bV
    have lA := lt_of_block aV
    have lB := lt_of_block bV
    go_wp2_with fail
    refine bodyPost_ret (v := .agg #[.slice x3 (n0 - 1) d3, .slice (some ⟨f, 0, none⟩) 16 d1, .slice a2 n2 c2]) (by simp [results, Tryz.results88, go_sem, cB]) rfl ?_
    have he : es.take k ++ es.drop (k + 1) = es.eraseIdx k := (List.eraseIdx_eq_take_drop_succ es k).symm
    have hre := RE.out
    have hrg := RG.out
    have KV' := KV.out
    rw [he] at hre
    rw [HAD.out] at hrg
    rw [HS.out]
    refine ⟨x3, d3, some ⟨f, 0, none⟩, d1, rfl, O.out.newEF ?_ (B1 := Z.heap.size) (B2 := w.heap.size + 2) ?_ ?_ (by omega) (by omega) hB ?_, ?_⟩
    · exact (by repeat' (first | with_reducible exact Below.refl _ _ | with_reducible assumption | with_reducible refine Below.alloc ?_ ?_ _ | with_reducible refine Below.drew ?_ | with_reducible refine Below.setCell ?_ ?_ _ | omega | (simp; omega) | (simp; done)))
    · exact (((hre.setOther (by simp; omega) _).setOther (by simp; omega) _).setOther (by simp; omega) _)
    · exact (((((hrg.low (by omega)).setOther (by simp) _).setOther (by simp) _).setOther (by simp) _))
    · intro g e1 e2
      rw [hrf] at e2
      injection e2 with e2
      have := (hre.blk e1).1
      omega
    · exact (by repeat' (first | with_reducible exact Below.refl _ _ | with_reducible assumption | with_reducible refine Below.alloc ?_ ?_ _ | with_reducible refine Below.drew ?_ | with_reducible refine Below.setCell ?_ ?_ _ | omega | (simp; omega) | (simp; done)))
end Go.Proofs.YtilldpoleiippaaGreatDoor
