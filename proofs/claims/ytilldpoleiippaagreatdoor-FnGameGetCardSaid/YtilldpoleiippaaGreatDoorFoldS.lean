/- The reference's fold of asks over a new game; condition: good asks. -/
import Derived.Test.YtilldpoleiippaaGreatDoorDoG
import Derived.Test.YtilldpoleiippaaGreatDoorMarkA
import Derived.Test.YtilldpoleiippaaGreatDoorGameNew
import Derived.Test.YtilldpoleiippaaGreatDoorFoldLaw
import Derived.Test.YtilldpoleiippaaGreatDoorMA
set_option linter.unusedSimpArgs false
set_option linter.unusedVariables false
namespace Go.Proofs.YtilldpoleiippaaGreatDoor
open Go.RowKit Go.Joins

theorem own3_new {w : World} {B f l : Nat} (hf : w.heap[f]? = some (.cells (flat intR (floorAt 20)) 3 (0, 0))) (hl : w.heap[l]? = some (.cells (flat intR (List.replicate 4 0)) 3 (0, 0))) (hn : f ≠ l) (h1 : B ≤ f) (h2 : B ≤ l) :
    Own3 w B none 0 (some ⟨f, 0, none⟩) 16 (some ⟨l, 0, none⟩) 4 newG := by
  have r1 : Row w B 3 (some ⟨f, 0, none⟩) 16 1 intR newG.fl := Row.of_block (zs := newG.fl) int_len hf h1 (by simp only [maxLen]; decide)
  have r2 : Row w B 3 (some ⟨l, 0, none⟩) 4 1 intR newG.la := Row.of_block (zs := newG.la) int_len hl h2 (by simp only [maxLen]; decide)
  exact ⟨Row.nil _ _ _ _ _ _, r1, r2, (fun g hg => by cases hg), (fun g hg => by cases hg), (fun g hg h => by have := rowBlk_some hg; have := rowBlk_some h; omega)⟩

set_option maxRecDepth 100000 in
set_option maxHeartbeats 8000000 in
theorem l2Fold_c (v : Value) (rs : List Rq) (w : World) (ha : IsSl w v 5 Rq.cs rs) (hg : rs.all good = true) :
    Calls Tryz.prog 31 #[v] w fun e w' => ∃ v, e = .returned v ∧ OwnGm w' w.heap.size v (foldG newG rs) ∧ Below w.heap.size w w' := by
  obtain ⟨a, cap, rfl, hlc, hm, hra⟩ := ha
  have HA := Lib.hid hra
  have HG := Lib.hid hg
  clear hra hg
  unfold maxLen at hm
  obtain ⟨n, hn⟩ : ∃ n, n = rs.length := ⟨_, rfl⟩
  rw [← hn] at hlc ⊢
  have HN := Lib.hid hn
  have hnm : n ≤ 9223372036854775807 := by omega
  clear hn hlc hm
  go_enter Tryz.func31, Tryz.ntmps31
  go_wp2_with fail
  obtain ⟨W, hW, sW, rW, kW⟩ := blocks1 w (.cells #[.slice none 0 0, .slice none 0 0, .slice none 0 0] 27)
  rw [← hW]
  clear hW
  refine (l2New_c _).mono ?_
  rintro e w1 ⟨f, l, rfl, hf, hl, n3, lf, ll, k1⟩
  have O1 := Lib.hid (own3_new (B := w.heap.size) hf hl n3 (by omega) (by omega))
  replace rW := Lib.hid (carryN k1 rW)
  replace kW := Lib.hid (below_next kW k1)
  have hks := Lib.hid kW.out.size
  clear k1 hf hl n3 lf ll sW
  go_wp2_with fail
  obtain ⟨w2, hw2, sw2, gW, k2⟩ := blocks1 w1 (.cells #[.slice none 0 0, .slice (some ⟨f, 0, none⟩) 16 16, .slice (some ⟨l, 0, none⟩) 4 4] 27)
  rw [← hw2]
  clear hw2
  obtain ⟨G, hG⟩ : ∃ G, G = w1.heap.size := ⟨_, rfl⟩
  rw [← hG] at gW ⊢
  replace O1 := Lib.hid (O1.out.below k2)
  have hRG : w.heap.size ≠ G := by have := lt_of_block rW.out; omega
  replace rW := Lib.hid (carryN k2 rW.out)
  replace kW := Lib.hid (below_next kW.out k2)
  have hwG : w.heap.size ≤ G := by rw [hG]; exact hks.out
  clear k2 sw2
  have RG := Lib.hid hRG
  have GW := Lib.hid gW
  have HWG := Lib.hid hwG
  clear hRG hG gW hwG
  go_loopw [4] (fun i wr => ∃ (k : Nat) (g : Gm) (b0 b1 b2 : Option Addr) (d0 d1 d2 : Nat), k ≤ n ∧ i = .int .i64 k ∧ g = foldG newG (rs.take k) ∧ wr.heap[G]? = some (.cells #[.slice b0 g.es.length d0, .slice b1 g.fl.length d1, .slice b2 g.la.length d2] 27 (0, 0)) ∧
      wr.heap[w.heap.size]? = some (.cells #[.slice none 0 0, .slice none 0 0, .slice none 0 0] 27 (0, 0)) ∧ Own3 wr w.heap.size b0 d0 b1 d1 b2 d2 g ∧ Below w.heap.size w wr) (fun i _ => n - (intOf i).toNat)
  case atStart => exact ⟨0, newG, none, some ⟨f, 0, none⟩, some ⟨l, 0, none⟩, 0, 16, 4, Nat.zero_le _, rfl, rfl, GW.out, rW.out, O1.out, kW.out⟩
  case round =>
    obtain ⟨k, g, b0, b1, b2, d0, d1, d2, hk, rfl, hgk, hG, hR, hO, hbel⟩ := hrel
    have hgR := Lib.hid hR
    have OV := Lib.hid hO
    have K := Lib.hid hbel
    by_cases hlt : k < n
    · have hkz : k < rs.length := by have := HN.out; omega
      have hk1 : (k : Int) < (n : Int) := by omega
      have hk0 : (0 : Int) ≤ (k : Int) := by omega
      have hwk : IntKind.i64.wrap ((k : Int) + 1) = (k : Int) + 1 := IntWalk.i64_in _ ⟨by omega, by omega⟩
      obtain ⟨bb, oo, rfl, hl0, hc0⟩ := HA.out k hkz
      have c0 : wr.cell? ⟨bb, oo + k * 5, none⟩ = some (.int .i64 rs[k].c) := (hbel.cell (p := ⟨bb, _, none⟩) hl0).trans (hc0 0 (by decide))
      have c1 : wr.cell? ⟨bb, oo + k * 5 + 1, none⟩ = some (.int .i64 rs[k].n) := (hbel.cell (p := ⟨bb, _, none⟩) hl0).trans (hc0 1 (by decide))
      have c2 : wr.cell? ⟨bb, oo + k * 5 + 2, none⟩ = some (.int .i64 rs[k].o) := (hbel.cell (p := ⟨bb, _, none⟩) hl0).trans (hc0 2 (by decide))
      have c3 : wr.cell? ⟨bb, oo + k * 5 + 3, none⟩ = some (.int .i64 rs[k].x) := (hbel.cell (p := ⟨bb, _, none⟩) hl0).trans (hc0 3 (by decide))
      have c4 : wr.cell? ⟨bb, oo + k * 5 + 4, none⟩ = some (.int .i64 rs[k].y) := (hbel.cell (p := ⟨bb, _, none⟩) hl0).trans (hc0 4 (by decide))
      have hlr : bb < wr.heap.size := Nat.lt_of_lt_of_le hl0 hbel.size
      have hgood := all_getG HG.out hkz
      have hokg : gameB g = true := by rw [hgk]; exact foldG_new_ok (all_takeG k HG.out)
      have hnext := foldG_take_succ newG hkz
      rw [← hgk] at hnext
      obtain ⟨r, hr⟩ : ∃ r, r = rs[k] := ⟨_, rfl⟩
      rw [← hr] at c0 c1 c2 c3 c4 hgood hnext
      have CD := Lib.hid (fun v V h hB => l2Do_c (B := w.heap.size) g r v V h hB hokg hgood)
      obtain ⟨p, hp⟩ : ∃ p, p = doG g r := ⟨_, rfl⟩
      rw [← hp] at CD hnext
      obtain ⟨y, b⟩ := p
      have HX := Lib.hid hnext
      have hB := Lib.hid hbel.size
      clear hgood hokg hnext hr hp hc0 hl0 hgk hbel hO hR
      have cG := cell_of_block hG
      have lG := lt_of_block hG
      simp only at CD HX
      go_wp2_with fail
      refine wp_region_held_drew (S := fun w' => ((∀ b o, b < wr.heap.size → (w').cell? ⟨b, o, none⟩ = (wr).cell? ⟨b, o, none⟩) ∧ Below (wr.heap.size) (wr) (w'))) (by kernel_rfl) (KeptB.drew (KeptB.refl _ _)) (fun hHeld => ?_)
      refine introFin2 (X := Xs) 0 #[true, true, true, true, true, true, true, true, true, true, true, true] (fun x T => (((((((((((T).setIfInBounds 15 (.agg #[.slice b0 g.es.length d0, .slice b1 g.fl.length d1, .slice b2 g.la.length d2])).setIfInBounds 16 (.slice (some ⟨bb, oo, none⟩) n cap)).setIfInBounds 17 (.int .i64 k)).setIfInBounds 18 (.pointer (some ⟨bb, oo + k * 5, none⟩))).setIfInBounds 19 (.agg #[.int .i64 r.c, .int .i64 r.n, .int .i64 r.o, .int .i64 r.x, .int .i64 r.y])).setIfInBounds 20 (.tuple #[.agg #[.slice x.a0 y.es.length x.c0, .slice x.a1 y.fl.length x.c1, .slice x.a2 y.la.length x.c2], .int .i64 b])).setIfInBounds 14 (.tuple #[.agg #[.slice x.a0 y.es.length x.c0, .slice x.a1 y.fl.length x.c1, .slice x.a2 y.la.length x.c2], .int .i64 b])).setIfInBounds 21 (.agg #[.slice x.a0 y.es.length x.c0, .slice x.a1 y.fl.length x.c1, .slice x.a2 y.la.length x.c2])).setIfInBounds 22 (.int .i64 b)).setIfInBounds 5 (.pointer (some ⟨x.x, 0, none⟩))).setIfInBounds 6 (.int .i64 b)) (fun x w' => (((∀ b o, b < wr.heap.size → (w').cell? ⟨b, o, none⟩ = (wr).cell? ⟨b, o, none⟩) ∧ Below (wr.heap.size) (wr) (w'))) ∧ w'.heap[x.x]? = some (.cells #[.slice x.a0 y.es.length x.c0, .slice x.a1 y.fl.length x.c1, .slice x.a2 y.la.length x.c2] 27 (0, 0)) ∧ wr.heap.size ≤ x.x ∧ Own3 w' w.heap.size x.a0 x.c0 x.a1 x.c1 x.a2 x.c2 y) ?_ (fun hfin => ?_)
      rotate_left
      · obtain ⟨wd, hwd, kwd⟩ : ∃ wd, wd = wr.drew ∧ Below wr.heap.size wr wd := ⟨_, rfl, Below.drew (Below.refl _ _)⟩
        rw [← hwd] at hHeld ⊢
        clear hwd
        have RK := Lib.hid (KeptB.of kwd)
        clear kwd
        refine wpAnyH_take (i := 0) (oi := _) (v := ?_) (by (simp only [List.getElem?_toArray]; rfl)) (by kernel_rfl) (by kernel_rfl) (by kernel_rfl) (by exact fun _ _ _ h => h) (Or.inl ⟨by rfl, ?_⟩) (by assumption) ?_
        rotate_left
        · intro wS hSw
          go_simp
          all_goals first | with_reducible rfl | rw [if_neg (by omega)]
        simp only [Act.put, List.setIfInBounds_toArray, List.set]
        refine wpAnyH_take (i := 1) (oi := _) (v := ?_) (by (simp only [List.getElem?_toArray]; rfl)) (by kernel_rfl) (by kernel_rfl) (by kernel_rfl) (by exact fun _ _ _ h => h) (Or.inl ⟨by rfl, ?_⟩) (by assumption) ?_
        rotate_left
        · intro wS hSw
          go_simp
          all_goals first | with_reducible rfl | rw [if_neg (by omega)]
        simp only [Act.put, List.setIfInBounds_toArray, List.set]
        refine wpAnyH_take (i := 2) (oi := _) (v := ?_) (by (simp only [List.getElem?_toArray]; rfl)) (by kernel_rfl) (by kernel_rfl) (by kernel_rfl) (by exact fun _ _ _ h => h) (Or.inl ⟨by rfl, ?_⟩) (by assumption) ?_
        rotate_left
        · intro wS hSw
          go_simp
          all_goals first | with_reducible rfl | rw [if_neg (by omega)]
        simp only [Act.put, List.setIfInBounds_toArray, List.set]
        refine wpAnyH_take (i := 3) (oi := _) (v := ?_) (by (simp only [List.getElem?_toArray]; rfl)) (by kernel_rfl) (by kernel_rfl) (by kernel_rfl) (by exact fun _ _ _ h => h) (Or.inl ⟨by rfl, ?_⟩) (by assumption) ?_
        rotate_left
        · intro wS hSw
          go_simp
          all_goals first | with_reducible rfl | rw [if_neg (by omega)]
        simp only [Act.put, List.setIfInBounds_toArray, List.set]
        refine wpAnyH_take (i := 4) (oi := _) (v := ?_) (by (simp only [List.getElem?_toArray]; rfl)) (by kernel_rfl) (by kernel_rfl) (by kernel_rfl) (by exact fun _ _ _ h => h) (Or.inl ⟨by rfl, ?_⟩) (by assumption) ?_
        rotate_left
        · intro wS hSw
          go_simp
          all_goals first | with_reducible rfl | rw [if_neg (by omega)]
        simp only [Act.put, List.setIfInBounds_toArray, List.set]
        refine wpAnyH_ready (rs := [5, 9]) (by kernel_rfl) (by simp) ?_
        refine AllReadyH.cons (o := _) (by (simp only [List.getElem?_toArray]; rfl)) (fun K hK => ?_) ?_
        · skip
          go_simp
          refine (CD.out _ _ ((OV.out.below RK.out.2).gm) (Nat.le_trans hB.out RK.out.2.size)).mono ?_
          rintro e wkCRK ⟨v2, rfl, ov2, kk⟩
          obtain ⟨e0, f0, e1, f1, e2, f2, rfl, o2⟩ := ov2.rows
          clear ov2
          have kCRK := Lib.hid (KeptB.next (Nat.le_refl _) RK.out kk)
          clear kk
          refine hK.out _ _ kCRK.out (fun hHeld => ?_)
          clear hK K hHeld
          try simp only [Act.put, List.setIfInBounds_toArray, List.set]
          refine wpAnyH_take (i := 6) (oi := _) (v := ?_) (by (simp only [List.getElem?_toArray]; rfl)) (by kernel_rfl) (by kernel_rfl) (by kernel_rfl) (by exact fun _ _ _ h => h) (Or.inl ⟨by rfl, ?_⟩) (by assumption) ?_
          rotate_left
          · intro wS hSw
            go_simp
            all_goals first | with_reducible rfl | rw [if_neg (by omega)]
          simp only [Act.put, List.setIfInBounds_toArray, List.set]
          refine wpAnyH_take (i := 7) (oi := _) (v := ?_) (by (simp only [List.getElem?_toArray]; rfl)) (by kernel_rfl) (by kernel_rfl) (by kernel_rfl) (by exact fun _ _ _ h => h) (Or.inl ⟨by rfl, ?_⟩) (by assumption) ?_
          rotate_left
          · intro wS hSw
            go_simp
            all_goals first | with_reducible rfl | rw [if_neg (by omega)]
          simp only [Act.put, List.setIfInBounds_toArray, List.set]
          refine wpAnyH_take (i := 8) (oi := _) (v := ?_) (by (simp only [List.getElem?_toArray]; rfl)) (by kernel_rfl) (by kernel_rfl) (by kernel_rfl) (by exact fun _ _ _ h => h) (Or.inl ⟨by rfl, ?_⟩) (by assumption) ?_
          rotate_left
          · intro wS hSw
            go_simp
            all_goals first | with_reducible rfl | rw [if_neg (by omega)]
          simp only [Act.put, List.setIfInBounds_toArray, List.set]
          refine wpAnyH_ready (rs := [9]) (by kernel_rfl) (by simp) ?_
          refine AllReadyH.cons (o := _) (by (simp only [List.getElem?_toArray]; rfl)) (fun K hK => ?_) AllReadyH.nil
          refine step_alloc (by rfl) (by rfl) (z := .agg #[.slice none 0 0, .slice none 0 0, .slice none 0 0]) (cs := #[.slice none 0 0, .slice none 0 0, .slice none 0 0]) (by kernel_rfl) rfl ?_
          obtain ⟨wAkCRK, hw', sw', hv, kw'⟩ := blocks1 wkCRK (.cells #[.slice none 0 0, .slice none 0 0, .slice none 0 0] 27)
          rw [← hw']
          clear hw' sw'
          have kAkCRK := Lib.hid (KeptB.next (Nat.le_refl _) kCRK.out kw')
          have hvx : wr.heap.size ≤ wkCRK.heap.size := kCRK.out.2.size
          replace o2 := o2.below kw'
          clear kw'
          refine hK.out _ _ kAkCRK.out (fun hHeld => ?_)
          clear hK K hHeld
          try simp only [Act.put, List.setIfInBounds_toArray, List.set]
          refine wpAnyH_ready (rs := [10]) (by kernel_rfl) (by simp) ?_
          refine AllReadyH.cons (o := _) (by (simp only [List.getElem?_toArray]; rfl)) (fun K hK => ?_) AllReadyH.nil
          have cv := cell_of_block hv
          have fv := unfrozen_of_block hv
          go_simp
          have kSkAkCRK := Lib.hid (KeptB.set (p := ⟨wkCRK.heap.size, 2, none⟩) hvx (.slice e2 y.la.length f2) (KeptB.set (p := ⟨wkCRK.heap.size, 1, none⟩) hvx (.slice e1 y.fl.length f1) (KeptB.set (p := ⟨wkCRK.heap.size, 0, none⟩) hvx (.slice e0 y.es.length f0) kAkCRK.out)))
          replace o2 := o2.set3 hv (.slice e0 y.es.length f0) (.slice e1 y.fl.length f1) (.slice e2 y.la.length f2)
          replace hv := block_set3 hv (.slice e0 y.es.length f0) (.slice e1 y.fl.length f1) (.slice e2 y.la.length f2)
          clear cv fv
          refine hK.out _ _ kSkAkCRK.out (fun hHeld => ?_)
          clear hK K hHeld
          try simp only [Act.put, List.setIfInBounds_toArray, List.set]
          refine wpAnyH_take (i := 11) (oi := _) (v := ?_) (by (simp only [List.getElem?_toArray]; rfl)) (by kernel_rfl) (by kernel_rfl) (by kernel_rfl) (by exact fun _ _ _ h => h) (Or.inl ⟨by rfl, ?_⟩) (by assumption) ?_
          rotate_left
          · intro wS hSw
            go_simp
            all_goals first | with_reducible rfl | rw [if_neg (by omega)]
          simp only [Act.put, List.setIfInBounds_toArray, List.set]
          refine hfin ⟨undef, undef, undef, e0, e1, e2, f0, f1, f2, wkCRK.heap.size⟩ _ _ _ (by kernel_rfl) ?_ ⟨kSkAkCRK.out, hv, hvx, o2⟩
          simp only [List.setIfInBounds_toArray, List.set]
        refine AllReadyH.cons (o := _) (by (simp only [List.getElem?_toArray]; rfl)) (fun K hK => ?_) ?_
        · skip
          refine step_alloc (by rfl) (by rfl) (z := .agg #[.slice none 0 0, .slice none 0 0, .slice none 0 0]) (cs := #[.slice none 0 0, .slice none 0 0, .slice none 0 0]) (by kernel_rfl) rfl ?_
          obtain ⟨wARK, hw', sw', hv, kw'⟩ := blocks1 wd (.cells #[.slice none 0 0, .slice none 0 0, .slice none 0 0] 27)
          rw [← hw']
          clear hw' sw'
          have kARK := Lib.hid (KeptB.next (Nat.le_refl _) RK.out kw')
          have hvx : wr.heap.size ≤ wd.heap.size := RK.out.2.size
          clear kw'
          refine hK.out _ _ kARK.out (fun hHeld => ?_)
          clear hK K hHeld
          try simp only [Act.put, List.setIfInBounds_toArray, List.set]
          refine wpAnyH_ready (rs := [5]) (by kernel_rfl) (by simp) ?_
          refine AllReadyH.cons (o := _) (by (simp only [List.getElem?_toArray]; rfl)) (fun K hK => ?_) AllReadyH.nil
          go_simp
          refine (CD.out _ _ ((OV.out.below kARK.out.2).gm) (Nat.le_trans hB.out kARK.out.2.size)).mono ?_
          rintro e wkCkARK ⟨v2, rfl, ov2, kk⟩
          obtain ⟨e0, f0, e1, f1, e2, f2, rfl, o2⟩ := ov2.rows
          clear ov2
          have kCkARK := Lib.hid (KeptB.next (Nat.le_refl _) kARK.out kk)
          replace hv := carryN kk hv
          clear kk
          refine hK.out _ _ kCkARK.out (fun hHeld => ?_)
          clear hK K hHeld
          try simp only [Act.put, List.setIfInBounds_toArray, List.set]
          refine wpAnyH_take (i := 6) (oi := _) (v := ?_) (by (simp only [List.getElem?_toArray]; rfl)) (by kernel_rfl) (by kernel_rfl) (by kernel_rfl) (by exact fun _ _ _ h => h) (Or.inl ⟨by rfl, ?_⟩) (by assumption) ?_
          rotate_left
          · intro wS hSw
            go_simp
            all_goals first | with_reducible rfl | rw [if_neg (by omega)]
          simp only [Act.put, List.setIfInBounds_toArray, List.set]
          refine wpAnyH_take (i := 7) (oi := _) (v := ?_) (by (simp only [List.getElem?_toArray]; rfl)) (by kernel_rfl) (by kernel_rfl) (by kernel_rfl) (by exact fun _ _ _ h => h) (Or.inl ⟨by rfl, ?_⟩) (by assumption) ?_
          rotate_left
          · intro wS hSw
            go_simp
            all_goals first | with_reducible rfl | rw [if_neg (by omega)]
          simp only [Act.put, List.setIfInBounds_toArray, List.set]
          refine wpAnyH_take (i := 8) (oi := _) (v := ?_) (by (simp only [List.getElem?_toArray]; rfl)) (by kernel_rfl) (by kernel_rfl) (by kernel_rfl) (by exact fun _ _ _ h => h) (Or.inl ⟨by rfl, ?_⟩) (by assumption) ?_
          rotate_left
          · intro wS hSw
            go_simp
            all_goals first | with_reducible rfl | rw [if_neg (by omega)]
          simp only [Act.put, List.setIfInBounds_toArray, List.set]
          refine wpAnyH_ready (rs := [10]) (by kernel_rfl) (by simp) ?_
          refine AllReadyH.cons (o := _) (by (simp only [List.getElem?_toArray]; rfl)) (fun K hK => ?_) AllReadyH.nil
          have cv := cell_of_block hv
          have fv := unfrozen_of_block hv
          go_simp
          have kSkCkARK := Lib.hid (KeptB.set (p := ⟨wd.heap.size, 2, none⟩) hvx (.slice e2 y.la.length f2) (KeptB.set (p := ⟨wd.heap.size, 1, none⟩) hvx (.slice e1 y.fl.length f1) (KeptB.set (p := ⟨wd.heap.size, 0, none⟩) hvx (.slice e0 y.es.length f0) kCkARK.out)))
          replace o2 := o2.set3 hv (.slice e0 y.es.length f0) (.slice e1 y.fl.length f1) (.slice e2 y.la.length f2)
          replace hv := block_set3 hv (.slice e0 y.es.length f0) (.slice e1 y.fl.length f1) (.slice e2 y.la.length f2)
          clear cv fv
          refine hK.out _ _ kSkCkARK.out (fun hHeld => ?_)
          clear hK K hHeld
          try simp only [Act.put, List.setIfInBounds_toArray, List.set]
          refine wpAnyH_take (i := 11) (oi := _) (v := ?_) (by (simp only [List.getElem?_toArray]; rfl)) (by kernel_rfl) (by kernel_rfl) (by kernel_rfl) (by exact fun _ _ _ h => h) (Or.inl ⟨by rfl, ?_⟩) (by assumption) ?_
          rotate_left
          · intro wS hSw
            go_simp
            all_goals first | with_reducible rfl | rw [if_neg (by omega)]
          simp only [Act.put, List.setIfInBounds_toArray, List.set]
          refine hfin ⟨undef, undef, undef, e0, e1, e2, f0, f1, f2, wd.heap.size⟩ _ _ _ (by kernel_rfl) ?_ ⟨kSkCkARK.out, hv, hvx, o2⟩
          simp only [List.setIfInBounds_toArray, List.set]
        exact AllReadyH.nil
      rintro ⟨_, _, _, e0, e1, e2, f0, f1, f2, P⟩ w9 ⟨k9, VB, hx, o2⟩
      simp only at k9 VB hx o2 ⊢
      simp only [List.setIfInBounds_toArray, List.set]
      refine wpAnyH_done (by kernel_rfl) ?_ _
      have hG9 := carryN k9.2 hG
      have hR9 := Lib.hid (carryN k9.2 hgR.out)
      have K9 := Lib.hid (K.out.trans (k9.2.mono hB.out))
      have O9 := Lib.hid o2
      have hne : P ≠ G := by omega
      have hne' : G ≠ P := by omega
      clear cG lG hG hgR OV k9 o2 K c0 c1 c2 c3 c4 hlr
      have cG := cell_of_block hG9
      have fG := unfrozen_of_block hG9
      have lG := lt_of_block hG9
      have cP := cell_of_block VB
      have lP := lt_of_block VB
      have hGG := Lib.hid hG9
      clear hG9 VB
      go_wp2_with fail
      go_roundw
      case rel =>
        refine ⟨k + 1, y, e0, e1, e2, f0, f1, f2, by omega, ?_, HX.out.symm, ?_, ?_, ?_, ?_⟩
        · go_num
        · exact block_set3 hGG.out _ _ _
        · exact (block_kept3 RG.out _ _ _).trans hR9.out
        · exact O9.out.set3 hGG.out _ _ _
        · exact below_set3 K9.out HWG.out _ _ _
      case measure => simp [intOf]; omega
    · have hkk : k = n := by omega
      subst hkk
      have hgk' : g = foldG newG rs := by rw [hgk, List.take_of_length_le (by have := HN.out; omega)]
      have HK := Lib.hid hgk'
      have hne := RG.out
      have hne' : ¬ (G = w.heap.size) := fun h => hne h.symm
      clear hgk hgk' hO hbel
      have cG := cell_of_block hG
      have lG := lt_of_block hG
      have cR := cell_of_block hR
      have fR := unfrozen_of_block hR
      have lR := lt_of_block hR
      have HRR := Lib.hid hR
      clear hR hG
      go_wp2_with fail
      refine bodyPost_ret (v := .agg #[.slice b0 g.es.length d0, .slice b1 g.fl.length d1, .slice b2 g.la.length d2]) (by simp [results, Tryz.results31, go_sem, cR]) rfl ?_
      refine ⟨_, rfl, ?_, below_set3 K.out (Nat.le_refl _) _ _ _⟩
      rw [← HK.out]
      exact (OV.out.set3 HRR.out _ _ _).gm
end Go.Proofs.YtilldpoleiippaaGreatDoor
