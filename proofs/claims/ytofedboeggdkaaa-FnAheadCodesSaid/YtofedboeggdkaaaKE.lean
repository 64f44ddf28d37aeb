/- The reference's fold of asks over a new game; condition: good asks. | Contracts of wpInts, wpReqs, wpGame, wpAhead: two that are alike are found alike; no condition. | The program's fold of asks over an ok game (played); condition: good asks, an ok game of its own. | GameFold, the program's and the reference's; condition: a small list. -/
import Derived.Test.YtofedboeggdkaaaKC
import Derived.Test.YtofedboeggdkaaaKB
import Derived.Test.YtofedboeggdkaaaKA
import Derived.Test.YtofedboeggdkaaaKD
set_option linter.unusedSimpArgs false
set_option linter.unusedVariables false
/-! The reference's fold of asks over a new game; condition: good asks. -/
namespace Go.Proofs.Ytofedboeggdkaaa
open Go.RowKit Go.Joins

theorem own3_new {w : World} {B f l : Nat} (hf : w.heap[f]? = some (.cells (flat intR (floorAt 20)) 3 (0, 0))) (hl : w.heap[l]? = some (.cells (flat intR (List.replicate 4 0)) 3 (0, 0))) (hn : f ≠ l) (h1 : B ≤ f) (h2 : B ≤ l) :
    Own3 w B none 0 (some ⟨f, 0, none⟩) 16 (some ⟨l, 0, none⟩) 4 newG := by
  have r1 : Row w B 3 (some ⟨f, 0, none⟩) 16 1 intR newG.fl := Row.of_block (zs := newG.fl) int_len hf h1 (by simp only [maxLen]; decide)
  have r2 : Row w B 3 (some ⟨l, 0, none⟩) 4 1 intR newG.la := Row.of_block (zs := newG.la) int_len hl h2 (by simp only [maxLen]; decide)
  exact ⟨Row.nil _ _ _ _ _ _, r1, r2, (fun g hg => by cases hg), (fun g hg => by cases hg), (fun g hg h => by have := rowBlk_some hg; have := rowBlk_some h; omega)⟩

set_option maxRecDepth 100000 in
set_option maxHeartbeats 8000000 in
theorem l2Fold_c (v : Value) (rs : List Rq) (w : World) (ha : IsSl w v 5 Rq.cs rs) (hg : rs.all good = true) :
    Calls Try.prog 89 #[v] w fun e w' => ∃ v, e = .returned v ∧ OwnGm w' w.heap.size v (foldG newG rs) ∧ Below w.heap.size w w' := by
  obtain ⟨a, cap, rfl, hlc, hm, hra⟩ := ha
  have HA := Lib.hid hra
  have HG := Lib.hid hg
  clear hra hg
  unfold maxLen at hm
  obtain ⟨n, hn⟩ : ∃ n, n = rs.length := ⟨_, rfl⟩
  rw [← hn] at hlc ⊢
  have HN := Lib.hid hn
  have hnm : n ≤ 9223372036854775807 := by omega
  clear hn hlc hm
  go_enter Try.func89, Try.ntmps89
  go_wp2_with fail
  obtain ⟨W, hW, sW, rW, kW⟩ := blocks1 w (.cells #[.slice none 0 0, .slice none 0 0, .slice none 0 0] 46)
  rw [← hW]
  clear hW
  refine (l2New_c _).mono ?_
  rintro e w1 ⟨f, l, rfl, hf, hl, n3, lf, ll, k1⟩
  have O1 := Lib.hid (own3_new (B := w.heap.size) hf hl n3 (by omega) (by omega))
  replace rW := Lib.hid (carryN k1 rW)
  replace kW := Lib.hid (below_next kW k1)
  have hks := Lib.hid kW.out.size
  clear k1 hf hl n3 lf ll sW
  go_wp2_with fail
  obtain ⟨w2, hw2, sw2, gW, k2⟩ := blocks1 w1 (.cells #[.slice none 0 0, .slice (some ⟨f, 0, none⟩) 16 16, .slice (some ⟨l, 0, none⟩) 4 4] 46)
  rw [← hw2]
  clear hw2
  obtain ⟨G, hG⟩ : ∃ G, G = w1.heap.size := ⟨_, rfl⟩
  rw [← hG] at gW ⊢
  replace O1 := Lib.hid (O1.out.below k2)
  have hRG : w.heap.size ≠ G := by have := lt_of_block rW.out; omega
  replace rW := Lib.hid (carryN k2 rW.out)
  replace kW := Lib.hid (below_next kW.out k2)
  have hwG : w.heap.size ≤ G := by rw [hG]; exact hks.out
  clear k2 sw2
  have RG := Lib.hid hRG
  have GW := Lib.hid gW
  have HWG := Lib.hid hwG
  clear hRG hG gW hwG
  go_loopw [4] (fun i wr => ∃ (k : Nat) (g : Gm) (b0 b1 b2 : Option Addr) (d0 d1 d2 : Nat), k ≤ n ∧ i = .int .i64 k ∧ g = foldG newG (rs.take k) ∧ wr.heap[G]? = some (.cells #[.slice b0 g.es.length d0, .slice b1 g.fl.length d1, .slice b2 g.la.length d2] 46 (0, 0)) ∧
      wr.heap[w.heap.size]? = some (.cells #[.slice none 0 0, .slice none 0 0, .slice none 0 0] 46 (0, 0)) ∧ Own3 wr w.heap.size b0 d0 b1 d1 b2 d2 g ∧ Below w.heap.size w wr) (fun i _ => n - (intOf i).toNat)
  case atStart => exact ⟨0, newG, none, some ⟨f, 0, none⟩, some ⟨l, 0, none⟩, 0, 16, 4, Nat.zero_le _, rfl, rfl, GW.out, rW.out, O1.out, kW.out⟩
  case round =>
    obtain ⟨k, g, b0, b1, b2, d0, d1, d2, hk, rfl, hgk, hG, hR, hO, hbel⟩ := hrel
    have hgR := Lib.hid hR
    have OV := Lib.hid hO
    have K := Lib.hid hbel
    by_cases hlt : k < n
    · have hkz : k < rs.length := by have := HN.out; omega
      have hk1 : (k : Int) < (n : Int) := by omega
      have hk0 : (0 : Int) ≤ (k : Int) := by omega
      have hwk : IntKind.i64.wrap ((k : Int) + 1) = (k : Int) + 1 := IntWalk.i64_in _ ⟨by omega, by omega⟩
      obtain ⟨bb, oo, rfl, hl0, hc0⟩ := HA.out k hkz
      have c0 : wr.cell? ⟨bb, oo + k * 5, none⟩ = some (.int .i64 rs[k].c) := (hbel.cell (p := ⟨bb, _, none⟩) hl0).trans (hc0 0 (by decide))
      have c1 : wr.cell? ⟨bb, oo + k * 5 + 1, none⟩ = some (.int .i64 rs[k].n) := (hbel.cell (p := ⟨bb, _, none⟩) hl0).trans (hc0 1 (by decide))
      have c2 : wr.cell? ⟨bb, oo + k * 5 + 2, none⟩ = some (.int .i64 rs[k].o) := (hbel.cell (p := ⟨bb, _, none⟩) hl0).trans (hc0 2 (by decide))
      have c3 : wr.cell? ⟨bb, oo + k * 5 + 3, none⟩ = some (.int .i64 rs[k].x) := (hbel.cell (p := ⟨bb, _, none⟩) hl0).trans (hc0 3 (by decide))
      have c4 : wr.cell? ⟨bb, oo + k * 5 + 4, none⟩ = some (.int .i64 rs[k].y) := (hbel.cell (p := ⟨bb, _, none⟩) hl0).trans (hc0 4 (by decide))
      have hlr : bb < wr.heap.size := Nat.lt_of_lt_of_le hl0 hbel.size
      have hgood := all_getG HG.out hkz
      have hokg : gameB g = true := by rw [hgk]; exact foldG_new_ok (all_takeG k HG.out)
      have hnext := foldG_take_succ newG hkz
      rw [← hgk] at hnext
      obtain ⟨r, hr⟩ : ∃ r, r = rs[k] := ⟨_, rfl⟩
      rw [← hr] at c0 c1 c2 c3 c4 hgood hnext
      have CD := Lib.hid (fun v V h hB => l2Do_c (B := w.heap.size) g r v V h hB hokg hgood)
      obtain ⟨p, hp⟩ : ∃ p, p = doG g r := ⟨_, rfl⟩
      rw [← hp] at CD hnext
      obtain ⟨y, b⟩ := p
      have HX := Lib.hid hnext
      have hB := Lib.hid hbel.size
      clear hgood hokg hnext hr hp hc0 hl0 hgk hbel hO hR
      have cG := cell_of_block hG
      have lG := lt_of_block hG
      simp only at CD HX
      go_wp2_with fail
      refine wp_region_held_drew (S := fun w' => ((∀ b o, b < wr.heap.size → (w').cell? ⟨b, o, none⟩ = (wr).cell? ⟨b, o, none⟩) ∧ Below (wr.heap.size) (wr) (w'))) (by kernel_rfl) (KeptB.drew (KeptB.refl _ _)) (fun hHeld => ?_)
      refine introFin2 (X := Xs) 0 #[true, true, true, true, true, true, true, true, true, true, true, true] (fun x T => (((((((((((T).setIfInBounds 15 (.agg #[.slice b0 g.es.length d0, .slice b1 g.fl.length d1, .slice b2 g.la.length d2])).setIfInBounds 16 (.slice (some ⟨bb, oo, none⟩) n cap)).setIfInBounds 17 (.int .i64 k)).setIfInBounds 18 (.pointer (some ⟨bb, oo + k * 5, none⟩))).setIfInBounds 19 (.agg #[.int .i64 r.c, .int .i64 r.n, .int .i64 r.o, .int .i64 r.x, .int .i64 r.y])).setIfInBounds 20 (.tuple #[.agg #[.slice x.a0 y.es.length x.c0, .slice x.a1 y.fl.length x.c1, .slice x.a2 y.la.length x.c2], .int .i64 b])).setIfInBounds 14 (.tuple #[.agg #[.slice x.a0 y.es.length x.c0, .slice x.a1 y.fl.length x.c1, .slice x.a2 y.la.length x.c2], .int .i64 b])).setIfInBounds 21 (.agg #[.slice x.a0 y.es.length x.c0, .slice x.a1 y.fl.length x.c1, .slice x.a2 y.la.length x.c2])).setIfInBounds 22 (.int .i64 b)).setIfInBounds 5 (.pointer (some ⟨x.x, 0, none⟩))).setIfInBounds 6 (.int .i64 b)) (fun x w' => (((∀ b o, b < wr.heap.size → (w').cell? ⟨b, o, none⟩ = (wr).cell? ⟨b, o, none⟩) ∧ Below (wr.heap.size) (wr) (w'))) ∧ w'.heap[x.x]? = some (.cells #[.slice x.a0 y.es.length x.c0, .slice x.a1 y.fl.length x.c1, .slice x.a2 y.la.length x.c2] 46 (0, 0)) ∧ wr.heap.size ≤ x.x ∧ Own3 w' w.heap.size x.a0 x.c0 x.a1 x.c1 x.a2 x.c2 y) ?_ (fun hfin => ?_)
      rotate_left
      · obtain ⟨wd, hwd, kwd⟩ : ∃ wd, wd = wr.drew ∧ Below wr.heap.size wr wd := ⟨_, rfl, Below.drew (Below.refl _ _)⟩
        rw [← hwd] at hHeld ⊢
        clear hwd
        have RK := Lib.hid (KeptB.of kwd)
        clear kwd
        refine wpAnyH_take (i := 0) (oi := _) (v := ?_) (by (simp only [List.getElem?_toArray]; rfl)) (by kernel_rfl) (by kernel_rfl) (by kernel_rfl) (by exact fun _ _ _ h => h) (Or.inl ⟨by rfl, ?_⟩) (by assumption) ?_
        rotate_left
        · intro wS hSw
          go_simp
          all_goals first | with_reducible rfl | rw [if_neg (by omega)]
        simp only [Act.put, List.setIfInBounds_toArray, List.set]
        refine wpAnyH_take (i := 1) (oi := _) (v := ?_) (by (simp only [List.getElem?_toArray]; rfl)) (by kernel_rfl) (by kernel_rfl) (by kernel_rfl) (by exact fun _ _ _ h => h) (Or.inl ⟨by rfl, ?_⟩) (by assumption) ?_
        rotate_left
        · intro wS hSw
          go_simp
          all_goals first | with_reducible rfl | rw [if_neg (by omega)]
        simp only [Act.put, List.setIfInBounds_toArray, List.set]
        refine wpAnyH_take (i := 2) (oi := _) (v := ?_) (by (simp only [List.getElem?_toArray]; rfl)) (by kernel_rfl) (by kernel_rfl) (by kernel_rfl) (by exact fun _ _ _ h => h) (Or.inl ⟨by rfl, ?_⟩) (by assumption) ?_
        rotate_left
        · intro wS hSw
          go_simp
          all_goals first | with_reducible rfl | rw [if_neg (by omega)]
        simp only [Act.put, List.setIfInBounds_toArray, List.set]
        refine wpAnyH_take (i := 3) (oi := _) (v := ?_) (by (simp only [List.getElem?_toArray]; rfl)) (by kernel_rfl) (by kernel_rfl) (by kernel_rfl) (by exact fun _ _ _ h => h) (Or.inl ⟨by rfl, ?_⟩) (by assumption) ?_
        rotate_left
        · intro wS hSw
          go_simp
          all_goals first | with_reducible rfl | rw [if_neg (by omega)]
        simp only [Act.put, List.setIfInBounds_toArray, List.set]
        refine wpAnyH_take (i := 4) (oi := _) (v := ?_) (by (simp only [List.getElem?_toArray]; rfl)) (by kernel_rfl) (by kernel_rfl) (by kernel_rfl) (by exact fun _ _ _ h => h) (Or.inl ⟨by rfl, ?_⟩) (by assumption) ?_
        rotate_left
        · intro wS hSw
          go_simp
          all_goals first | with_reducible rfl | rw [if_neg (by omega)]
        simp only [Act.put, List.setIfInBounds_toArray, List.set]
        refine wpAnyH_ready (rs := [5, 9]) (by kernel_rfl) (by simp) ?_
        refine AllReadyH.cons (o := _) (by (simp only [List.getElem?_toArray]; rfl)) (fun K hK => ?_) ?_
        · skip
          go_simp
          refine (CD.out _ _ ((OV.out.below RK.out.2).gm) (Nat.le_trans hB.out RK.out.2.size)).mono ?_
          rintro e wkCRK ⟨v2, rfl, ov2, kk⟩
          obtain ⟨e0, f0, e1, f1, e2, f2, rfl, o2⟩ := ov2.rows
          clear ov2
          have kCRK := Lib.hid (KeptB.next (Nat.le_refl _) RK.out kk)
          clear kk
          refine hK.out _ _ kCRK.out (fun hHeld => ?_)
          clear hK K hHeld
          try simp only [Act.put, List.setIfInBounds_toArray, List.set]
          refine wpAnyH_take (i := 6) (oi := _) (v := ?_) (by (simp only [List.getElem?_toArray]; rfl)) (by kernel_rfl) (by kernel_rfl) (by kernel_rfl) (by exact fun _ _ _ h => h) (Or.inl ⟨by rfl, ?_⟩) (by assumption) ?_
          rotate_left
          · intro wS hSw
            go_simp
            all_goals first | with_reducible rfl | rw [if_neg (by omega)]
          simp only [Act.put, List.setIfInBounds_toArray, List.set]
          refine wpAnyH_take (i := 7) (oi := _) (v := ?_) (by (simp only [List.getElem?_toArray]; rfl)) (by kernel_rfl) (by kernel_rfl) (by kernel_rfl) (by exact fun _ _ _ h => h) (Or.inl ⟨by rfl, ?_⟩) (by assumption) ?_
          rotate_left
          · intro wS hSw
            go_simp
            all_goals first | with_reducible rfl | rw [if_neg (by omega)]
          simp only [Act.put, List.setIfInBounds_toArray, List.set]
          refine wpAnyH_take (i := 8) (oi := _) (v := ?_) (by (simp only [List.getElem?_toArray]; rfl)) (by kernel_rfl) (by kernel_rfl) (by kernel_rfl) (by exact fun _ _ _ h => h) (Or.inl ⟨by rfl, ?_⟩) (by assumption) ?_
          rotate_left
          · intro wS hSw
            go_simp
            all_goals first | with_reducible rfl | rw [if_neg (by omega)]
          simp only [Act.put, List.setIfInBounds_toArray, List.set]
          refine wpAnyH_ready (rs := [9]) (by kernel_rfl) (by simp) ?_
          refine AllReadyH.cons (o := _) (by (simp only [List.getElem?_toArray]; rfl)) (fun K hK => ?_) AllReadyH.nil
          refine step_alloc (by rfl) (by rfl) (z := .agg #[.slice none 0 0, .slice none 0 0, .slice none 0 0]) (cs := #[.slice none 0 0, .slice none 0 0, .slice none 0 0]) (by kernel_rfl) rfl ?_
          obtain ⟨wAkCRK, hw', sw', hv, kw'⟩ := blocks1 wkCRK (.cells #[.slice none 0 0, .slice none 0 0, .slice none 0 0] 46)
          rw [← hw']
          clear hw' sw'
          have kAkCRK := Lib.hid (KeptB.next (Nat.le_refl _) kCRK.out kw')
          have hvx : wr.heap.size ≤ wkCRK.heap.size := kCRK.out.2.size
          replace o2 := o2.below kw'
          clear kw'
          refine hK.out _ _ kAkCRK.out (fun hHeld => ?_)
          clear hK K hHeld
          try simp only [Act.put, List.setIfInBounds_toArray, List.set]
          refine wpAnyH_ready (rs := [10]) (by kernel_rfl) (by simp) ?_
          refine AllReadyH.cons (o := _) (by (simp only [List.getElem?_toArray]; rfl)) (fun K hK => ?_) AllReadyH.nil
          have cv := cell_of_block hv
          have fv := unfrozen_of_block hv
          go_simp
          have kSkAkCRK := Lib.hid (KeptB.set (p := ⟨wkCRK.heap.size, 2, none⟩) hvx (.slice e2 y.la.length f2) (KeptB.set (p := ⟨wkCRK.heap.size, 1, none⟩) hvx (.slice e1 y.fl.length f1) (KeptB.set (p := ⟨wkCRK.heap.size, 0, none⟩) hvx (.slice e0 y.es.length f0) kAkCRK.out)))
          replace o2 := o2.set3 hv (.slice e0 y.es.length f0) (.slice e1 y.fl.length f1) (.slice e2 y.la.length f2)
          replace hv := block_set3 hv (.slice e0 y.es.length f0) (.slice e1 y.fl.length f1) (.slice e2 y.la.length f2)
          clear cv fv
          refine hK.out _ _ kSkAkCRK.out (fun hHeld => ?_)
          clear hK K hHeld
          try simp only [Act.put, List.setIfInBounds_toArray, List.set]
          refine wpAnyH_take (i := 11) (oi := _) (v := ?_) (by (simp only [List.getElem?_toArray]; rfl)) (by kernel_rfl) (by kernel_rfl) (by kernel_rfl) (by exact fun _ _ _ h => h) (Or.inl ⟨by rfl, ?_⟩) (by assumption) ?_
          rotate_left
          · intro wS hSw
            go_simp
            all_goals first | with_reducible rfl | rw [if_neg (by omega)]
          simp only [Act.put, List.setIfInBounds_toArray, List.set]
          refine hfin ⟨undef, undef, undef, e0, e1, e2, f0, f1, f2, wkCRK.heap.size⟩ _ _ _ (by kernel_rfl) ?_ ⟨kSkAkCRK.out, hv, hvx, o2⟩
          simp only [List.setIfInBounds_toArray, List.set]
        refine AllReadyH.cons (o := _) (by (simp only [List.getElem?_toArray]; rfl)) (fun K hK => ?_) ?_
        · skip
          refine step_alloc (by rfl) (by rfl) (z := .agg #[.slice none 0 0, .slice none 0 0, .slice none 0 0]) (cs := #[.slice none 0 0, .slice none 0 0, .slice none 0 0]) (by kernel_rfl) rfl ?_
          obtain ⟨wARK, hw', sw', hv, kw'⟩ := blocks1 wd (.cells #[.slice none 0 0, .slice none 0 0, .slice none 0 0] 46)
          rw [← hw']
          clear hw' sw'
          have kARK := Lib.hid (KeptB.next (Nat.le_refl _) RK.out kw')
          have hvx : wr.heap.size ≤ wd.heap.size := RK.out.2.size
          clear kw'
          refine hK.out _ _ kARK.out (fun hHeld => ?_)
          clear hK K hHeld
          try simp only [Act.put, List.setIfInBounds_toArray, List.set]
          refine wpAnyH_ready (rs := [5]) (by kernel_rfl) (by simp) ?_
          refine AllReadyH.cons (o := _) (by (simp only [List.getElem?_toArray]; rfl)) (fun K hK => ?_) AllReadyH.nil
          go_simp
          refine (CD.out _ _ ((OV.out.below kARK.out.2).gm) (Nat.le_trans hB.out kARK.out.2.size)).mono ?_
          rintro e wkCkARK ⟨v2, rfl, ov2, kk⟩
          obtain ⟨e0, f0, e1, f1, e2, f2, rfl, o2⟩ := ov2.rows
          clear ov2
          have kCkARK := Lib.hid (KeptB.next (Nat.le_refl _) kARK.out kk)
          replace hv := carryN kk hv
          clear kk
          refine hK.out _ _ kCkARK.out (fun hHeld => ?_)
          clear hK K hHeld
          try simp only [Act.put, List.setIfInBounds_toArray, List.set]
          refine wpAnyH_take (i := 6) (oi := _) (v := ?_) (by (simp only [List.getElem?_toArray]; rfl)) (by kernel_rfl) (by kernel_rfl) (by kernel_rfl) (by exact fun _ _ _ h => h) (Or.inl ⟨by rfl, ?_⟩) (by assumption) ?_
          rotate_left
          · intro wS hSw
            go_simp
            all_goals first | with_reducible rfl | rw [if_neg (by omega)]
          simp only [Act.put, List.setIfInBounds_toArray, List.set]
          refine wpAnyH_take (i := 7) (oi := _) (v := ?_) (by (simp only [List.getElem?_toArray]; rfl)) (by kernel_rfl) (by kernel_rfl) (by kernel_rfl) (by exact fun _ _ _ h => h) (Or.inl ⟨by rfl, ?_⟩) (by assumption) ?_
          rotate_left
          · intro wS hSw
            go_simp
            all_goals first | with_reducible rfl | rw [if_neg (by omega)]
          simp only [Act.put, List.setIfInBounds_toArray, List.set]
          refine wpAnyH_take (i := 8) (oi := _) (v := ?_) (by (simp only [List.getElem?_toArray]; rfl)) (by kernel_rfl) (by kernel_rfl) (by kernel_rfl) (by exact fun _ _ _ h => h) (Or.inl ⟨by rfl, ?_⟩) (by assumption) ?_
          rotate_left
          · intro wS hSw
            go_simp
            all_goals first | with_reducible rfl | rw [if_neg (by omega)]
          simp only [Act.put, List.setIfInBounds_toArray, List.set]
          refine wpAnyH_ready (rs := [10]) (by kernel_rfl) (by simp) ?_
          refine AllReadyH.cons (o := _) (by (simp only [List.getElem?_toArray]; rfl)) (fun K hK => ?_) AllReadyH.nil
          have cv := cell_of_block hv
          have fv := unfrozen_of_block hv
          go_simp
          have kSkCkARK := Lib.hid (KeptB.set (p := ⟨wd.heap.size, 2, none⟩) hvx (.slice e2 y.la.length f2) (KeptB.set (p := ⟨wd.heap.size, 1, none⟩) hvx (.slice e1 y.fl.length f1) (KeptB.set (p := ⟨wd.heap.size, 0, none⟩) hvx (.slice e0 y.es.length f0) kCkARK.out)))
          replace o2 := o2.set3 hv (.slice e0 y.es.length f0) (.slice e1 y.fl.length f1) (.slice e2 y.la.length f2)
          replace hv := block_set3 hv (.slice e0 y.es.length f0) (.slice e1 y.fl.length f1) (.slice e2 y.la.length f2)
          clear cv fv
          refine hK.out _ _ kSkCkARK.out (fun hHeld => ?_)
          clear hK K hHeld
          try simp only [Act.put, List.setIfInBounds_toArray, List.set]
          refine wpAnyH_take (i := 11) (oi := _) (v := ?_) (by (simp only [List.getElem?_toArray]; rfl)) (by kernel_rfl) (by kernel_rfl) (by kernel_rfl) (by exact fun _ _ _ h => h) (Or.inl ⟨by rfl, ?_⟩) (by assumption) ?_
          rotate_left
          · intro wS hSw
            go_simp
            all_goals first | with_reducible rfl | rw [if_neg (by omega)]
          simp only [Act.put, List.setIfInBounds_toArray, List.set]
          refine hfin ⟨undef, undef, undef, e0, e1, e2, f0, f1, f2, wd.heap.size⟩ _ _ _ (by kernel_rfl) ?_ ⟨kSkCkARK.out, hv, hvx, o2⟩
          simp only [List.setIfInBounds_toArray, List.set]
        exact AllReadyH.nil
      rintro ⟨_, _, _, e0, e1, e2, f0, f1, f2, P⟩ w9 ⟨k9, VB, hx, o2⟩
      simp only at k9 VB hx o2 ⊢
      simp only [List.setIfInBounds_toArray, List.set]
      refine wpAnyH_done (by kernel_rfl) ?_ _
      have hG9 := carryN k9.2 hG
      have hR9 := Lib.hid (carryN k9.2 hgR.out)
      have K9 := Lib.hid (K.out.trans (k9.2.mono hB.out))
      have O9 := Lib.hid o2
      have hne : P ≠ G := by omega
      have hne' : G ≠ P := by omega
      clear cG lG hG hgR OV k9 o2 K c0 c1 c2 c3 c4 hlr
      have cG := cell_of_block hG9
      have fG := unfrozen_of_block hG9
      have lG := lt_of_block hG9
      have cP := cell_of_block VB
      have lP := lt_of_block VB
      have hGG := Lib.hid hG9
      clear hG9 VB
      go_wp2_with fail
      go_roundw
      case rel =>
        refine ⟨k + 1, y, e0, e1, e2, f0, f1, f2, by omega, ?_, HX.out.symm, ?_, ?_, ?_, ?_⟩
        · go_num
        · exact block_set3 hGG.out _ _ _
        · exact (block_kept3 RG.out _ _ _).trans hR9.out
        · exact O9.out.set3 hGG.out _ _ _
        · exact below_set3 K9.out HWG.out _ _ _
      case measure => simp [intOf]; omega
    · have hkk : k = n := by omega
      subst hkk
      have hgk' : g = foldG newG rs := by rw [hgk, List.take_of_length_le (by have := HN.out; omega)]
      have HK := Lib.hid hgk'
      have hne := RG.out
      have hne' : ¬ (G = w.heap.size) := fun h => hne h.symm
      clear hgk hgk' hO hbel
      have cG := cell_of_block hG
      have lG := lt_of_block hG
      have cR := cell_of_block hR
      have fR := unfrozen_of_block hR
      have lR := lt_of_block hR
      have HRR := Lib.hid hR
      clear hR hG
      go_wp2_with fail
      refine bodyPost_ret (v := .agg #[.slice b0 g.es.length d0, .slice b1 g.fl.length d1, .slice b2 g.la.length d2]) (by simp [results, Try.results89, go_sem, cR]) rfl ?_
      refine ⟨_, rfl, ?_, below_set3 K.out (Nat.le_refl _) _ _ _⟩
      rw [← HK.out]
      exact (OV.out.set3 HRR.out _ _ _).gm
end Go.Proofs.Ytofedboeggdkaaa

/-! Contracts of wpInts, wpReqs, wpGame, wpAhead: two that are alike are found alike; no condition. -/
namespace Go.Proofs.Ytofedboeggdkaaa
open Go.RowKit Go.Joins

theorem neq_et (w : World) (c n o x y c' n' o' x' y' : Int) : (binOp .neq 92 (.agg #[.int .i64 c, .int .i64 n, .int .i64 o, .int .i64 x, .int .i64 y]) (.agg #[.int .i64 c', .int .i64 n', .int .i64 o', .int .i64 x', .int .i64 y'])).run Try.prog w = .ok (.bool (!eqR c n o x y c' n' o' x' y')) w := by
  go_simp
  by_cases h1 : c = c' <;> by_cases h2 : n = n' <;> by_cases h3 : o = o' <;> by_cases h4 : x = x' <;> by_cases h5 : y = y' <;> simp [eqR, h1, h2, h3, h4, h5]
attribute [local go_sem ↓] neq_rq neq_et

set_option maxHeartbeats 1000000 in
theorem wpInts_c (va vb : Value) (zs : List Int) (w : World) (ha : IsSl w va 1 intR zs) (hb : IsSl w vb 1 intR zs) :
    Calls Try.prog 46 #[va, vb] w (Yes w) := by
  obtain ⟨a, cap, rfl, hlc, hm, hra⟩ := ha
  obtain ⟨b, cap', rfl, hlc', hm', hrb⟩ := hb
  have HA := Lib.hid hra
  have HB := Lib.hid hrb
  clear hra hrb
  unfold maxLen at hm hm'
  generalize hnn : zs.length = n at *
  go_enter Try.func46, Try.ntmps46
  go_wp2_with fail
  go_loopw [5] (fun i wr => ∃ k : Nat, k ≤ n ∧ i = .int .i64 k ∧ Below w.heap.size w wr) (fun i _ => n - (intOf i).toNat)
  case atStart => exact ⟨0, Nat.zero_le _, rfl, Below.refl _ _⟩
  case round =>
    obtain ⟨k, hk, rfl, hbel⟩ := hrel
    by_cases hlt : k < n
    · have hkz : k < zs.length := by omega
      have hk1 : (k : Int) < (n : Int) := by omega
      have hk0 : (0 : Int) ≤ (k : Int) := by omega
      obtain ⟨b0, o0, rfl, hl0, hc0⟩ := HA.out k hkz
      obtain ⟨b1, o1, rfl, hl1, hc1⟩ := HB.out k hkz
      have c0 : wr.cell? ⟨b0, o0 + k, none⟩ = some (.int .i64 zs[k]) := by
        have h := (hbel.cell (p := ⟨b0, _, none⟩) hl0).trans (hc0 0 (by decide))
        rwa [Nat.mul_one, Nat.add_zero] at h
      have d0 : wr.cell? ⟨b1, o1 + k, none⟩ = some (.int .i64 zs[k]) := by
        have h := (hbel.cell (p := ⟨b1, _, none⟩) hl1).trans (hc1 0 (by decide))
        rwa [Nat.mul_one, Nat.add_zero] at h
      clear hc0 hc1
      generalize zs[k] = z at *
      go_wp2_with fail
      go_region_with fail
      all_goals
        have hbel1 := Below.drew hbel
        clear hbel
        go_wp2_with fail
        refine ⟨⟨k + 1, by omega, by go_num, hbel1⟩, ?_⟩
        simp [intOf]; omega
    · go_wp2_with fail
      go_ret
      exact ⟨rfl, hbel⟩

set_option maxRecDepth 100000 in
set_option maxHeartbeats 4000000 in
theorem wpReqs_c (va vb : Value) (zs : List Rq) (w : World) (ha : IsSl w va 5 Rq.cs zs) (hb : IsSl w vb 5 Rq.cs zs) :
    Calls Try.prog 35 #[va, vb] w (Yes w) := by
  obtain ⟨a, cap, rfl, hlc, hm, hra⟩ := ha
  obtain ⟨b, cap', rfl, hlc', hm', hrb⟩ := hb
  have HA := Lib.hid hra
  have HB := Lib.hid hrb
  clear hra hrb
  unfold maxLen at hm hm'
  generalize hnn : zs.length = n at *
  go_enter Try.func35, Try.ntmps35
  go_wp2_with fail
  go_loopw [5] (fun i wr => ∃ k : Nat, k ≤ n ∧ i = .int .i64 k ∧ Below w.heap.size w wr) (fun i _ => n - (intOf i).toNat)
  case atStart => exact ⟨0, Nat.zero_le _, rfl, Below.refl _ _⟩
  case round =>
    obtain ⟨k, hk, rfl, hbel⟩ := hrel
    by_cases hlt : k < n
    · have hkz : k < zs.length := by omega
      have hk1 : (k : Int) < (n : Int) := by omega
      have hk0 : (0 : Int) ≤ (k : Int) := by omega
      obtain ⟨b0, o0, rfl, hl0, hc0⟩ := HA.out k hkz
      obtain ⟨b1, o1, rfl, hl1, hc1⟩ := HB.out k hkz
      have c0 : wr.cell? ⟨b0, o0 + k * 5, none⟩ = some (.int .i64 zs[k].c) := (hbel.cell (p := ⟨b0, _, none⟩) hl0).trans (hc0 0 (by decide))
      have c1 : wr.cell? ⟨b0, o0 + k * 5 + 1, none⟩ = some (.int .i64 zs[k].n) := (hbel.cell (p := ⟨b0, _, none⟩) hl0).trans (hc0 1 (by decide))
      have c2 : wr.cell? ⟨b0, o0 + k * 5 + 2, none⟩ = some (.int .i64 zs[k].o) := (hbel.cell (p := ⟨b0, _, none⟩) hl0).trans (hc0 2 (by decide))
      have c3 : wr.cell? ⟨b0, o0 + k * 5 + 3, none⟩ = some (.int .i64 zs[k].x) := (hbel.cell (p := ⟨b0, _, none⟩) hl0).trans (hc0 3 (by decide))
      have c4 : wr.cell? ⟨b0, o0 + k * 5 + 4, none⟩ = some (.int .i64 zs[k].y) := (hbel.cell (p := ⟨b0, _, none⟩) hl0).trans (hc0 4 (by decide))
      have d0 : wr.cell? ⟨b1, o1 + k * 5, none⟩ = some (.int .i64 zs[k].c) := (hbel.cell (p := ⟨b1, _, none⟩) hl1).trans (hc1 0 (by decide))
      have d1 : wr.cell? ⟨b1, o1 + k * 5 + 1, none⟩ = some (.int .i64 zs[k].n) := (hbel.cell (p := ⟨b1, _, none⟩) hl1).trans (hc1 1 (by decide))
      have d2 : wr.cell? ⟨b1, o1 + k * 5 + 2, none⟩ = some (.int .i64 zs[k].o) := (hbel.cell (p := ⟨b1, _, none⟩) hl1).trans (hc1 2 (by decide))
      have d3 : wr.cell? ⟨b1, o1 + k * 5 + 3, none⟩ = some (.int .i64 zs[k].x) := (hbel.cell (p := ⟨b1, _, none⟩) hl1).trans (hc1 3 (by decide))
      have d4 : wr.cell? ⟨b1, o1 + k * 5 + 4, none⟩ = some (.int .i64 zs[k].y) := (hbel.cell (p := ⟨b1, _, none⟩) hl1).trans (hc1 4 (by decide))
      clear hc0 hc1
      generalize zs[k] = z at *
      obtain ⟨zc, zn, zo, zx, zy⟩ := z
      simp only at c0 c1 c2 c3 c4 d0 d1 d2 d3 d4
      have HE := eqR_refl zc zn zo zx zy
      go_wp2_with fail
      go_region_with fail
      all_goals
        go_wp2_with fail
        refine ⟨⟨k + 1, by omega, by go_num, by first | exact hbel | exact hbel.drew⟩, ?_⟩
        simp [intOf]; omega
    · go_wp2_with fail
      go_ret
      exact ⟨rfl, hbel⟩

set_option maxRecDepth 100000 in
set_option maxHeartbeats 8000000 in
theorem wpGame_c (z : Gm) (a0 a1 a2 b0 b1 b2 : Option Addr) (n m l : Nat) (c0 c1 c2 d0 d1 d2 : Nat) (w : World) (ha0 : IsSl w (.slice a0 n c0) 5 Rq.cs z.es) (ha1 : IsSl w (.slice a1 m c1) 1 intR z.fl) (ha2 : IsSl w (.slice a2 l c2) 1 intR z.la)
    (hb0 : IsSl w (.slice b0 n d0) 5 Rq.cs z.es) (hb1 : IsSl w (.slice b1 m d1) 1 intR z.fl) (hb2 : IsSl w (.slice b2 l d2) 1 intR z.la) :
    Calls Try.prog 32 #[.agg #[.slice a0 n c0, .slice a1 m c1, .slice a2 l c2], .agg #[.slice b0 n d0, .slice b1 m d1, .slice b2 l d2]] w (Yes w) := by
  have A1 := Lib.hid ha1
  have B1 := Lib.hid hb1
  have A2 := Lib.hid ha2
  have B2 := Lib.hid hb2
  obtain ⟨a, cap, he, hlc, hm, hra⟩ := ha0
  obtain ⟨b, cap', he', hlc', hm', hrb⟩ := hb0
  injection he with h1 h2 h3
  injection he' with h4 h5 h6
  subst h1 h3 h4 h6
  clear ha1 hb1 ha2 hb2 h5
  have HA := Lib.hid hra
  have HB := Lib.hid hrb
  clear hra hrb
  unfold maxLen at hm hm'
  obtain ⟨es, fl, la⟩ := z
  simp only at h2 HA HB A1 A2 B1 B2 hlc hlc'
  obtain ⟨zs, hzs⟩ : ∃ zs, zs = es := ⟨_, rfl⟩
  rw [← hzs] at h2 HA HB hlc hlc'
  clear hzs
  have HN := Lib.hid h2
  have hnc : n ≤ 9223372036854775807 := by omega
  clear h2 hlc hlc' hm hm'
  go_enter Try.func32, Try.ntmps32
  go_wp2_with fail
  obtain ⟨W, hW, sW, aW, bW, kW⟩ := blocks2 w (.cells #[.slice a0 n c0, .slice a1 m c1, .slice a2 l c2] 46) (.cells #[.slice b0 n d0, .slice b1 m d1, .slice b2 l d2] 46)
  rw [← hW]
  clear hW
  have HAW := Lib.hid aW
  have HBW := Lib.hid bW
  have KW := Lib.hid kW
  clear sW kW
  have cA := cell_of_block aW
  have lA := lt_of_block aW
  have cB := cell_of_block bW
  have lB := lt_of_block bW
  clear aW bW
  go_wp2_with fail
  clear cA cB lA lB
  go_loopw [5] (fun i wr => ∃ k : Nat, k ≤ n ∧ i = .int .i64 k ∧ Below W.heap.size W wr) (fun i _ => n - (intOf i).toNat)
  case atStart => exact ⟨0, Nat.zero_le _, rfl, Below.refl _ _⟩
  case round =>
    obtain ⟨k, hk, rfl, hbelW⟩ := hrel
    have hAr := carryN hbelW HAW.out
    have hBr := carryN hbelW HBW.out
    have hbel := below_next KW.out hbelW
    have KR := Lib.hid hbelW
    have cA := cell_of_block hAr
    have lA := lt_of_block hAr
    have cB := cell_of_block hBr
    have lB := lt_of_block hBr
    clear hAr hBr hbelW
    by_cases hlt : k < n
    · have hkz : k < zs.length := by have := HN.out; omega
      have hk1 : (k : Int) < (n : Int) := by omega
      have hk0 : (0 : Int) ≤ (k : Int) := by omega
      obtain ⟨b0, o0, rfl, hl0, hc0⟩ := HA.out k hkz
      obtain ⟨b1, o1, rfl, hl1, hc1⟩ := HB.out k hkz
      have c0 : wr.cell? ⟨b0, o0 + k * 5, none⟩ = some (.int .i64 zs[k].c) := (hbel.cell (p := ⟨b0, _, none⟩) hl0).trans (hc0 0 (by decide))
      have c1 : wr.cell? ⟨b0, o0 + k * 5 + 1, none⟩ = some (.int .i64 zs[k].n) := (hbel.cell (p := ⟨b0, _, none⟩) hl0).trans (hc0 1 (by decide))
      have c2 : wr.cell? ⟨b0, o0 + k * 5 + 2, none⟩ = some (.int .i64 zs[k].o) := (hbel.cell (p := ⟨b0, _, none⟩) hl0).trans (hc0 2 (by decide))
      have c3 : wr.cell? ⟨b0, o0 + k * 5 + 3, none⟩ = some (.int .i64 zs[k].x) := (hbel.cell (p := ⟨b0, _, none⟩) hl0).trans (hc0 3 (by decide))
      have c4 : wr.cell? ⟨b0, o0 + k * 5 + 4, none⟩ = some (.int .i64 zs[k].y) := (hbel.cell (p := ⟨b0, _, none⟩) hl0).trans (hc0 4 (by decide))
      have d0 : wr.cell? ⟨b1, o1 + k * 5, none⟩ = some (.int .i64 zs[k].c) := (hbel.cell (p := ⟨b1, _, none⟩) hl1).trans (hc1 0 (by decide))
      have d1 : wr.cell? ⟨b1, o1 + k * 5 + 1, none⟩ = some (.int .i64 zs[k].n) := (hbel.cell (p := ⟨b1, _, none⟩) hl1).trans (hc1 1 (by decide))
      have d2 : wr.cell? ⟨b1, o1 + k * 5 + 2, none⟩ = some (.int .i64 zs[k].o) := (hbel.cell (p := ⟨b1, _, none⟩) hl1).trans (hc1 2 (by decide))
      have d3 : wr.cell? ⟨b1, o1 + k * 5 + 3, none⟩ = some (.int .i64 zs[k].x) := (hbel.cell (p := ⟨b1, _, none⟩) hl1).trans (hc1 3 (by decide))
      have d4 : wr.cell? ⟨b1, o1 + k * 5 + 4, none⟩ = some (.int .i64 zs[k].y) := (hbel.cell (p := ⟨b1, _, none⟩) hl1).trans (hc1 4 (by decide))
      clear hc0 hc1
      generalize zs[k] = z at *
      obtain ⟨zc, zn, zo, zx, zy⟩ := z
      simp only at c0 c1 c2 c3 c4 d0 d1 d2 d3 d4
      have HE := eqR_refl zc zn zo zx zy
      clear hbel
      go_wp2_with fail
      go_region_with fail
      all_goals
        go_wp2_with fail
        refine ⟨⟨k + 1, by omega, by go_num, by first | exact KR.out | exact KR.out.drew⟩, ?_⟩
        simp [intOf]; omega
    · go_wp2_with fail
      refine (wpInts_c _ _ fl _ (A1.out.below hbel) (B1.out.below hbel)).mono ?_
      rintro e w2 ⟨rfl, k2⟩
      have KB := below_next hbel k2
      have hAr := carryN (below_next KR.out k2) HAW.out
      have hBr := carryN (below_next KR.out k2) HBW.out
      clear cA cB lA lB hbel k2
      have cA := cell_of_block hAr
      have lA := lt_of_block hAr
      have cB := cell_of_block hBr
      have lB := lt_of_block hBr
      have K2 := Lib.hid KB
      clear hAr hBr KB
      go_wp2_with fail
      refine (wpInts_c _ _ la _ (A2.out.below K2.out) (B2.out.below K2.out)).mono ?_
      rintro e w3 ⟨rfl, k3⟩
      clear cA cB lA lB
      go_wp2_with fail
      go_ret
      exact ⟨rfl, below_next K2.out k3⟩

end Go.Proofs.Ytofedboeggdkaaa

/-! The program's fold of asks over an ok game (played); condition: good asks, an ok game of its own. -/
namespace Go.Proofs.Ytofedboeggdkaaa
open Go.RowKit Go.Joins

set_option maxRecDepth 100000 in
set_option maxHeartbeats 8000000 in
theorem played_c {B : Nat} (z : Gm) (v u : Value) (rs : List Rq) (w : World) (ho : OwnGm w B v z) (hB : B ≤ w.heap.size) (ha : IsSl w u 5 Rq.cs rs) (hz : gameB z = true) (hg : rs.all good = true) :
    Calls Try.prog 84 #[v, u] w fun e w' => ∃ v, e = .returned v ∧ OwnGm w' B v (foldG z rs) ∧ Below w.heap.size w w' := by
  obtain ⟨a, cap, rfl, hlc, hm, hra⟩ := ha
  obtain ⟨a0, c0, a1, c1, a2, c2, rfl, o1⟩ := ho.rows
  have HA := Lib.hid hra
  have HG := Lib.hid hg
  have HZ := Lib.hid hz
  have O1 := Lib.hid o1
  have HB := Lib.hid hB
  clear hra hg hz ho o1 hB
  unfold maxLen at hm
  obtain ⟨n, hn⟩ : ∃ n, n = rs.length := ⟨_, rfl⟩
  rw [← hn] at hlc ⊢
  have HN := Lib.hid hn
  have hnm : n ≤ 9223372036854775807 := by omega
  clear hn hlc hm
  go_enter Try.func84, Try.ntmps84
  go_wp2_with fail
  obtain ⟨W, hW, sW, gW, rW, kW⟩ := blocks2 w (.cells #[.slice a0 z.es.length c0, .slice a1 z.fl.length c1, .slice a2 z.la.length c2] 46) (.cells #[.slice none 0 0, .slice none 0 0, .slice none 0 0] 46)
  rw [← hW]
  clear hW sW
  replace O1 := Lib.hid (O1.out.below kW)
  have GW := Lib.hid gW
  have RW := Lib.hid rW
  have KW := Lib.hid kW
  clear kW gW rW
  go_loopw [9] (fun i wr => ∃ (k : Nat) (g : Gm) (b0 b1 b2 : Option Addr) (d0 d1 d2 : Nat), k ≤ n ∧ i = .int .i64 k ∧ g = foldG z (rs.take k) ∧ wr.heap[w.heap.size]? = some (.cells #[.slice b0 g.es.length d0, .slice b1 g.fl.length d1, .slice b2 g.la.length d2] 46 (0, 0)) ∧
      wr.heap[w.heap.size + 1]? = some (.cells #[.slice none 0 0, .slice none 0 0, .slice none 0 0] 46 (0, 0)) ∧ Own3 wr B b0 d0 b1 d1 b2 d2 g ∧ Below w.heap.size w wr) (fun i _ => n - (intOf i).toNat)
  case atStart => exact ⟨0, z, a0, a1, a2, c0, c1, c2, Nat.zero_le _, rfl, rfl, GW.out, RW.out, O1.out, KW.out⟩
  case round =>
    obtain ⟨k, g, b0, b1, b2, d0, d1, d2, hk, rfl, hgk, hG, hR, hO, hbel⟩ := hrel
    have HRR := Lib.hid hR
    have HGG := Lib.hid hG
    have OV := Lib.hid hO
    have K := Lib.hid hbel
    by_cases hlt : k < n
    · have hkz : k < rs.length := by have := HN.out; omega
      have hk1 : (k : Int) < (n : Int) := by omega
      have hk0 : (0 : Int) ≤ (k : Int) := by omega
      have hwk : IntKind.i64.wrap ((k : Int) + 1) = (k : Int) + 1 := IntWalk.i64_in _ ⟨by omega, by omega⟩
      obtain ⟨bb, oo, rfl, hl0, hc0⟩ := HA.out k hkz
      have c0 : wr.cell? ⟨bb, oo + k * 5, none⟩ = some (.int .i64 rs[k].c) := (hbel.cell (p := ⟨bb, _, none⟩) hl0).trans (hc0 0 (by decide))
      have c1 : wr.cell? ⟨bb, oo + k * 5 + 1, none⟩ = some (.int .i64 rs[k].n) := (hbel.cell (p := ⟨bb, _, none⟩) hl0).trans (hc0 1 (by decide))
      have c2 : wr.cell? ⟨bb, oo + k * 5 + 2, none⟩ = some (.int .i64 rs[k].o) := (hbel.cell (p := ⟨bb, _, none⟩) hl0).trans (hc0 2 (by decide))
      have c3 : wr.cell? ⟨bb, oo + k * 5 + 3, none⟩ = some (.int .i64 rs[k].x) := (hbel.cell (p := ⟨bb, _, none⟩) hl0).trans (hc0 3 (by decide))
      have c4 : wr.cell? ⟨bb, oo + k * 5 + 4, none⟩ = some (.int .i64 rs[k].y) := (hbel.cell (p := ⟨bb, _, none⟩) hl0).trans (hc0 4 (by decide))
      have hgood := all_getG HG.out hkz
      have hokg : gameB g = true := by rw [hgk]; exact foldG_ok _ _ HZ.out (all_takeG k HG.out)
      have hnext := foldG_take_succ z hkz
      rw [← hgk] at hnext
      obtain ⟨r, hr⟩ : ∃ r, r = rs[k] := ⟨_, rfl⟩
      rw [← hr] at c0 c1 c2 c3 c4 hgood hnext
      have hlens := game_lensG hokg
      have h4 : g.es.length ≤ 4 := by
        have h := hokg
        rw [gameB_iff] at h
        exact ents_le4 h.1
      have CD := Lib.hid (fun V (h : Own3 V B b0 d0 b1 d1 b2 d2 g) => GameDoF_c g r b0 b1 b2 d0 d1 d2 V (h.e.sl five_len) (h.f.sl int_len) (h.l.sl int_len) (by omega))
      rw [gameDo_yes hokg hgood] at CD
      obtain ⟨p, hp⟩ : ∃ p, p = doG g r := ⟨_, rfl⟩
      rw [← hp] at CD hnext
      obtain ⟨y, b⟩ := p
      have HX := Lib.hid hnext
      clear hgood hokg hnext hr hp hc0 hl0 hgk hbel hO hR hlens h4
      have cG := cell_of_block hG
      have lG := lt_of_block hG
      simp only at CD HX
      go_wp2_with fail
      obtain ⟨wa, hwa, swa, qA, ka⟩ := blocks1 wr (.cells #[.int .i64 r.c, .int .i64 r.n, .int .i64 r.o, .int .i64 r.x, .int .i64 r.y] 34)
      rw [← hwa]
      clear hwa
      refine (CD.out wa (OV.out.below ka)).mono ?_
      rintro e w5 ⟨e0, e1, e2, rfl, o5, kk⟩
      have k5 := below_next ka kk
      have hG5 := carryN k5 hG
      have hR5 := Lib.hid (carryN k5 HRR.out)
      have KB := HB.out
      have KS := K.out.size
      have O5 := Lib.hid (o5.low (show B ≤ wa.heap.size by omega))
      have K5 := Lib.hid (below_next K.out k5)
      clear swa qA ka kk k5 o5 cG lG hG c0 c1 c2 c3 c4 KB KS OV HGG HRR K
      have cG := cell_of_block hG5
      have fG := unfrozen_of_block hG5
      have lG := lt_of_block hG5
      have HGG := Lib.hid hG5
      clear hG5
      go_wp2_with fail
      go_roundw
      case rel =>
        refine ⟨k + 1, y, e0, e1, e2, y.es.length, y.fl.length, y.la.length, by omega, ?_, HX.out.symm, ?_, ?_, ?_, ?_⟩
        · go_num
        · exact block_set3 HGG.out _ _ _
        · exact (block_kept3 (by omega) _ _ _).trans hR5.out
        · exact O5.out.set3 HGG.out _ _ _
        · exact below_set3 K5.out (Nat.le_refl _) _ _ _
      case measure => simp [intOf]; omega
    · have hkk : k = n := by omega
      subst hkk
      have hgk' : g = foldG z rs := by rw [hgk, List.take_of_length_le (by have := HN.out; omega)]
      have HK := Lib.hid hgk'
      clear hgk hgk' hO hbel
      have cG := cell_of_block hG
      have lG := lt_of_block hG
      have cR := cell_of_block hR
      have fR := unfrozen_of_block hR
      have lR := lt_of_block hR
      clear hR hG
      go_wp2_with fail
      refine bodyPost_ret (v := .agg #[.slice b0 g.es.length d0, .slice b1 g.fl.length d1, .slice b2 g.la.length d2]) (by simp [results, Try.results84, go_sem, cR]) rfl ?_
      refine ⟨_, rfl, ?_, below_set3 K.out (Nat.le_succ _) _ _ _⟩
      rw [← HK.out]
      exact (OV.out.set3 HRR.out _ _ _).gm
end Go.Proofs.Ytofedboeggdkaaa

/-! GameFold, the program's and the reference's; condition: a small list. -/
namespace Go.Proofs.Ytofedboeggdkaaa
open Go.RowKit Go.Joins

/-- A game in rows of its own. -/
def GameOwn (z : Gm) (w : World) (e : Ending) (w' : World) : Prop := ∃ v, e = .returned v ∧ OwnGm w' w.heap.size v z ∧ Below w.heap.size w w'

set_option maxRecDepth 100000 in
set_option maxHeartbeats 4000000 in
theorem GameFold_c (a : Option Addr) (n cap : Nat) (rs : List Rq) (w : World) (h : IsSl w (.slice a n cap) 5 Rq.cs rs) (hn : rs.length = n) :
    Calls Try.prog 37 #[.slice a n cap] w (GameOwn (gfold rs) w) := by
  have HH := Lib.hid h
  have HN := Lib.hid hn
  have hm : n ≤ 9223372036854775807 := by have := h.bounds; unfold maxLen at this; omega
  clear h hn
  go_enter Try.func37, Try.ntmps37
  go_upto_region 1 with fail
  obtain ⟨W, hW, sW, rW, kW⟩ := blocks1 w (.cells #[.slice none 0 0, .slice none 0 0, .slice none 0 0] 46)
  rw [← hW]
  clear hW sW
  have RW := Lib.hid rW
  have KW := Lib.hid kW
  by_cases h60 : (60 : Int) < n
  · have cR := cell_of_block rW
    have fR := unfrozen_of_block rW
    have lR := lt_of_block rW
    clear rW kW
    go_wp2_with fail
    refine bodyPost_ret (v := .agg #[.slice none 0 0, .slice none 0 0, .slice none 0 0]) (by simp [results, Try.results37, go_sem, cR]) rfl ?_
    rw [gfold_no (fun q => by have := HN.out; omega)]
    exact ⟨_, rfl, (own3_nil _ _).gm, below_set3 KW.out (Nat.le_refl _) _ _ _⟩
  · clear rW kW
    go_wp2_with fail
    refine (allOk_c a rs n cap W (HH.out.below KW.out) HN.out).mono ?_
    rintro e w1 ⟨rfl, k1⟩
    have R1 := Lib.hid (carryN k1 RW.out)
    have K1 := Lib.hid (below_next KW.out k1)
    clear k1
    cases hg : rs.all good with
    | false =>
      have HG := Lib.hid hg
      have cR := cell_of_block R1.out
      have fR := unfrozen_of_block R1.out
      have lR := lt_of_block R1.out
      clear hg
      go_wp2_with fail
      refine bodyPost_ret (v := .agg #[.slice none 0 0, .slice none 0 0, .slice none 0 0]) (by simp [results, Try.results37, go_sem, cR]) rfl ?_
      rw [gfold_no (fun q => by rw [HG.out] at q; exact absurd q.2 (by simp))]
      exact ⟨_, rfl, (own3_nil _ _).gm, below_set3 K1.out (Nat.le_refl _) _ _ _⟩
    | true =>
      have HG := Lib.hid hg
      clear hg
      go_wp2_with fail
      refine (GameNew_c _).mono ?_
      rintro e w2 ⟨f, l, rfl, hf, hl, n3, lf, ll, k2⟩
      have hs1 := K1.out.size
      have O2 := Lib.hid (own3_new (B := w.heap.size) hf hl n3 (by omega) (by omega))
      have R2 := Lib.hid (carryN k2 R1.out)
      have K2 := Lib.hid (below_next K1.out k2)
      clear k2 hf hl n3 lf ll hs1 R1 K1
      go_wp2_with fail
      refine (played_c (B := w.heap.size) newG _ _ rs _ O2.out.gm K2.out.size (HN.out ▸ HH.out.below K2.out) newG_ok HG.out).mono ?_
      rintro e w3 ⟨v, rfl, ov, k3⟩
      obtain ⟨e0, f0, e1, f1, e2, f2, rfl, o3⟩ := ov.rows
      have R3 := carryN k3 R2.out
      have RR := Lib.hid R3
      have K3 := Lib.hid (below_next K2.out k3)
      have O3 := Lib.hid o3
      have HE := Lib.hid (gfold_yes (by have := HN.out; omega) HG.out)
      obtain ⟨y, hy⟩ : ∃ y, y = foldG newG rs := ⟨_, rfl⟩
      rw [← hy] at O3 HE ⊢
      have cR := cell_of_block R3
      have fR := unfrozen_of_block R3
      have lR := lt_of_block R3
      clear R3 k3 ov o3 hy R2 K2 O2
      go_wp2_with fail
      refine bodyPost_ret (v := .agg #[.slice e0 y.es.length f0, .slice e1 y.fl.length f1, .slice e2 y.la.length f2]) (by simp [results, Try.results37, go_sem, cR]) rfl ?_
      rw [HE.out]
      exact ⟨_, rfl, (O3.out.set3 RR.out _ _ _).gm, below_set3 K3.out (Nat.le_refl _) _ _ _⟩

set_option maxRecDepth 100000 in
set_option maxHeartbeats 8000000 in
theorem sGameFold_c (a : Option Addr) (n cap : Nat) (rs : List Rq) (w : World) (h : IsSl w (.slice a n cap) 5 Rq.cs rs) (hn : rs.length = n) :
    Calls Try.prog 38 #[.slice a n cap] w (GameOwn (gfold rs) w) := by
  have HH := Lib.hid h
  have HN := Lib.hid hn
  have hm : n ≤ 9223372036854775807 := by have := h.bounds; unfold maxLen at this; omega
  have HA := Lib.hid h.bounds.2.2.2
  clear h hn
  go_enter Try.func38, Try.ntmps38
  go_wp2_with fail
  obtain ⟨W, hW, sW, rW, kW⟩ := blocks1 w (.cells #[.slice none 0 0, .slice none 0 0, .slice none 0 0] 46)
  rw [← hW]
  clear hW sW
  have RW := Lib.hid rW
  have KW := Lib.hid kW
  clear rW kW
  go_loopw [3] (fun i wr => ∃ k : Nat, k ≤ n ∧ i = .int .i64 k ∧ (rs.take k).all good = true ∧ Below W.heap.size W wr) (fun i _ => n - (intOf i).toNat)
  case atStart => exact ⟨0, Nat.zero_le _, rfl, rfl, Below.refl _ _⟩
  case round =>
    obtain ⟨k, hk, rfl, hgs, hbW⟩ := hrel
    have GS := Lib.hid hgs
    have RR := Lib.hid (carryN hbW RW.out)
    have KK := Lib.hid (below_next KW.out hbW)
    have KB := Lib.hid hbW
    have hbel := below_next KW.out hbW
    clear hgs hbW
    by_cases hlt : k < n
    · have hkz : k < rs.length := by have := HN.out; omega
      have hk1 : (k : Int) < (n : Int) := by omega
      have hk0 : (0 : Int) ≤ (k : Int) := by omega
      have hwk : IntKind.i64.wrap ((k : Int) + 1) = (k : Int) + 1 := IntWalk.i64_in _ ⟨by omega, by omega⟩
      obtain ⟨b0, o0, rfl, hl0, hc0⟩ := five_at HA.out k hkz
      obtain ⟨c0, c1, c2, c3, c4⟩ := hc0 wr hbel
      have HNX := Lib.hid (show good rs[k] = true → (rs.take (k + 1)).all good = true by
        intro hq
        rw [List.take_succ_eq_append_getElem hkz, List.all_append, GS.out]
        simp [hq])
      have HNO := Lib.hid (show good rs[k] = false → ¬ (rs.all good = true) by
        intro hq h2
        rw [all_getG h2 hkz] at hq
        cases hq)
      have hgr : good rs[k] = (noneB rs[k].c rs[k].n rs[k].o rs[k].x rs[k].y || okB rs[k].c rs[k].n rs[k].o rs[k].x rs[k].y) := rfl
      have HGR := Lib.hid hgr
      have HC := Lib.hid hc0
      clear hgr hc0 hl0 hbel
      generalize rs[k] = r at *
      go_wp2_with fail
      refine (l1Ok_c r.c r.n r.o r.x r.y wr).mono ?_
      rintro e w1 ⟨rfl, k1⟩
      have K1 := Lib.hid (below_next KB.out k1)
      have R1 := Lib.hid (carryN k1 RR.out)
      clear c0 c1 c2 c3 c4
      cases hok : okB r.c r.n r.o r.x r.y with
      | true =>
        have hgd : good r = true := by rw [HGR.out, hok, Bool.or_true]
        have HGD := Lib.hid hgd
        clear hok hgd k1
        go_wp2_with fail
        go_roundw
        case rel => exact ⟨k + 1, by omega, by go_num, HNX.out HGD.out, K1.out⟩
        case measure => simp [intOf]; omega
      | false =>
        obtain ⟨c0, c1, c2, c3, c4⟩ := HC.out w1 (below_next KK.out k1)
        have HOK := Lib.hid hok
        clear hok k1
        go_wp2_with fail
        refine (l1None_c r.c r.n r.o r.x r.y w1).mono ?_
        rintro e w2 ⟨rfl, k2⟩
        have K2 := Lib.hid (below_next K1.out k2)
        have R2 := carryN k2 R1.out
        clear c0 c1 c2 c3 c4 k2
        cases hnn : noneB r.c r.n r.o r.x r.y with
        | true =>
          have hgd : good r = true := by rw [HGR.out, hnn, Bool.true_or]
          have HGD := Lib.hid hgd
          clear hnn hgd
          go_wp2_with fail
          go_roundw
          case rel => exact ⟨k + 1, by omega, by go_num, HNX.out HGD.out, K2.out⟩
          case measure => simp [intOf]; omega
        | false =>
          have hgd : good r = false := by rw [HGR.out, hnn, HOK.out]; rfl
          have HGD := Lib.hid hgd
          have cR := cell_of_block R2
          have fR := unfrozen_of_block R2
          have lR := lt_of_block R2
          have RR2 := Lib.hid R2
          clear hnn hgd R2
          go_wp2_with fail
          refine bodyPost_ret (v := .agg #[.slice none 0 0, .slice none 0 0, .slice none 0 0]) (by simp [results, Try.results38, go_sem, cR]) rfl ?_
          rw [gfold_no (fun q => HNO.out HGD.out q.2)]
          exact ⟨_, rfl, (own3_nil _ _).gm, below_set3 (below_next KW.out K2.out) (Nat.le_refl _) _ _ _⟩
    · have hkk : k = n := by omega
      subst hkk
      have HG := Lib.hid (show rs.all good = true by have h := GS.out; rwa [List.take_of_length_le (by have := HN.out; omega)] at h)
      clear hbel
      by_cases h60 : (60 : Int) < k
      · have cR := cell_of_block RR.out
        have fR := unfrozen_of_block RR.out
        have lR := lt_of_block RR.out
        go_wp2_with fail
        refine bodyPost_ret (v := .agg #[.slice none 0 0, .slice none 0 0, .slice none 0 0]) (by simp [results, Try.results38, go_sem, cR]) rfl ?_
        rw [gfold_no (fun q => by have := HN.out; omega)]
        exact ⟨_, rfl, (own3_nil _ _).gm, below_set3 KK.out (Nat.le_refl _) _ _ _⟩
      · go_wp2_with fail
        refine (l2Fold_c _ rs wr (HN.out ▸ HH.out.below KK.out) HG.out).mono ?_
        rintro e w2 ⟨v, rfl, ov, k2⟩
        obtain ⟨e0, f0, e1, f1, e2, f2, rfl, o2⟩ := ov.rows
        have K2 := Lib.hid (below_next KK.out k2)
        have R2 := Lib.hid (carryN k2 RR.out)
        have K2S := Lib.hid KK.out.size
        have O2 := Lib.hid o2
        have HE := Lib.hid (gfold_yes (by have := HN.out; omega) HG.out)
        have hlen := game_lensG (foldG_new_ok HG.out)
        have h4 : (foldG newG rs).es.length ≤ 4 := by
          have h := foldG_new_ok HG.out
          rw [gameB_iff] at h
          exact ents_le4 h.1
        obtain ⟨y, hy⟩ : ∃ y, y = foldG newG rs := ⟨_, rfl⟩
        rw [← hy] at o2 O2 HE hlen h4 ⊢
        have hb0 : y.es.length ≤ 16777216 := Nat.le_trans h4 (by decide)
        have hb1 : y.fl.length ≤ 16777216 := by rw [hlen.1]; decide
        have hb2 : y.la.length ≤ 16777216 := by rw [hlen.2]; decide
        have CC := Lib.hid (fun V (o : Own3 V w.heap.size e0 f0 e1 f1 e2 f2 y) => l2Copy_c y e0 e1 e2 y.es.length y.fl.length y.la.length f0 f1 f2 V (o.e.sl five_len) (o.f.sl int_len) (o.l.sl int_len) hb0 hb1 hb2)
        clear k2 ov hy hb0 hb1 hb2 h4 hlen
        replace O2 := Lib.hid (o2.low K2S.out)
        clear o2
        go_wp2_with fail
        refine (CC.out w2 O2.out).mono ?_
        rintro e w3 ⟨v3, rfl, ov3, k3⟩
        obtain ⟨g0, j0, g1, j1, g2, j2, rfl, o3⟩ := ov3.rows
        have hs2 := K2.out.size
        have K3 := Lib.hid (below_next K2.out k3)
        have R3 := carryN k3 R2.out
        have R3' := Lib.hid R3
        have O3 := Lib.hid (o3.low hs2)
        have cR := cell_of_block R3
        have fR := unfrozen_of_block R3
        have lR := lt_of_block R3
        clear R3 k3 ov3 o3 R2 K2 O2 hs2
        go_wp2_with fail
        refine bodyPost_ret (v := .agg #[.slice g0 y.es.length j0, .slice g1 y.fl.length j1, .slice g2 y.la.length j2]) (by simp [results, Try.results38, go_sem, cR]) rfl ?_
        rw [HE.out]
        exact ⟨_, rfl, (O3.out.set3 R3'.out _ _ _).gm, below_set3 K3.out (Nat.le_refl _) _ _ _⟩
end Go.Proofs.Ytofedboeggdkaaa
