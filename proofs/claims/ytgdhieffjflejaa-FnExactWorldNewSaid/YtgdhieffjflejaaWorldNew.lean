/- Contracts of WorldNew and of its reference: keepers as new, in a list of their own; no condition. -/
import Derived.Test.YtgdhieffjflejaaRepRow
set_option linter.unusedSimpArgs false
set_option linter.unusedVariables false
namespace Go.Proofs.Ytgdhieffjflejaa
open Go.RowKit Go.Joins

theorem introFinG {X : Type} {P : Program} {md : Region.Mode} {ops : Array Oper} {Q : Exit → Act → World → Prop} {S : World → Prop} {fuel0 : Nat} {listed0 : Array Bool} {T0 : Array Value} {w0 : World} (fuel : Nat) (listed : Array Bool) (F : X → Array Value → Array Value) (C : X → World → Prop)
    (hfin : ∀ x w', C x w' → wpAnyH P md ops Q S fuel listed ⟨F x T0, []⟩ w')
    (h : (∀ x w' l a, l = listed → a = ⟨F x T0, []⟩ → C x w' → wpAnyH P md ops Q S fuel l a w') → wpAnyH P md ops Q S fuel0 listed0 ⟨T0, []⟩ w0) : wpAnyH P md ops Q S fuel0 listed0 ⟨T0, []⟩ w0 :=
  h fun x w' _ _ e1 e2 c => e1 ▸ e2 ▸ hfin x w' c
/-- The first k keepers, new. -/
def newReps (k : Nat) : List Rp := (List.range k).map (fun i : Nat => (⟨i, 0, true, 1⟩ : Rp))
theorem newReps_succ (k : Nat) : newReps (k + 1) = newReps k ++ [⟨k, 0, true, 1⟩] := by simp [newReps, List.range_succ]
theorem newReps_len (k : Nat) : (newReps k).length = k := by simp [newReps]
/-- The keepers of a new world. -/
def worldReps (n : Int) : List Rp := if inB n 0 3 then newReps 4 else []
def worldBad (n : Int) : Int := if inB n 0 3 then n else 0
def worldN (n : Int) : Nat := if inB n 0 3 then 4 else 0
theorem worldReps_len (n : Int) : (worldReps n).length = worldN n := by
  unfold worldReps worldN
  split
  · exact newReps_len 4
  · rfl
/-- A new world, its keepers in a list of their own. -/
def WorldGot (n : Int) (w : World) (e : Ending) (w' : World) : Prop :=
  ∃ (a : Option Addr) (c : Nat), e = .returned (.agg #[.int .i64 (worldBad n), .slice a (worldN n) c, .slice none 0 0]) ∧ Row w' w.heap.size 78 a c 7 Rp.cs (worldReps n) ∧ Below w.heap.size w w'
theorem RepNew_k (k : Nat) (w : World) (h : k < 4) : Calls Try.prog 45 #[.int .i64 k] w fun e w' => e = .returned (.agg #[.int .i64 k, .int .i64 0, .bool true, .int .i64 1, .slice none 0 0, .slice none 0 0, .slice none 0 0]) ∧ Below w.heap.size w w' := by
  have hb : inB (k : Int) 0 3 = true := by
    rcases (show k = 0 ∨ k = 1 ∨ k = 2 ∨ k = 3 by omega) with rfl | rfl | rfl | rfl <;> rfl
  refine (RepNew_c k w).mono ?_
  rintro e w' ⟨rfl, hk⟩
  refine ⟨?_, hk⟩
  unfold repMe repLive repNext
  rw [hb]
  rfl

set_option maxRecDepth 100000 in
set_option maxHeartbeats 4000000 in
theorem l6New_c (bad : Int) (w : World) :
    Calls Try.prog 43 #[.int .i64 bad] w fun e w' => ∃ (a : Option Addr) (c : Nat), e = .returned (.agg #[.int .i64 bad, .slice a 4 c, .slice none 0 0]) ∧ Row w' w.heap.size 78 a c 7 Rp.cs (newReps 4) ∧ Below w.heap.size w w' := by
  go_enter Try.func43, Try.ntmps43
  go_wp2_with fail
  obtain ⟨W, hW, sW, aW, bW, kW⟩ := blocks2 w (.cells #[.int .i64 0, .slice none 0 0, .slice none 0 0] 50) (.cells #[.int .i64 bad, .slice none 0 0, .slice none 0 0] 50)
  rw [← hW]
  clear hW
  obtain ⟨G, hGe⟩ : ∃ G, G = w.heap.size + 1 := ⟨_, rfl⟩
  rw [← hGe] at bW ⊢
  have HGE := Lib.hid hGe
  clear hGe
  have lW := lt_of_block bW
  go_loopw [4] (fun i wr => ∃ (k : Nat) (ae : Option Addr) (ce : Nat), k ≤ 4 ∧ i = .int .i64 k ∧ wr.heap[G]? = some (.cells #[.int .i64 bad, .slice ae k ce, .slice none 0 0] 50 (0, 0)) ∧ Row wr (G + 1) 78 ae ce 7 Rp.cs (newReps k) ∧ Below G W wr) (fun i _ => 4 - (intOf i).toNat)
  case atStart => exact ⟨0, none, 0, by omega, rfl, bW, Row.nil _ _ _ _ _ _, Below.refl _ _⟩
  case round =>
    obtain ⟨k, ae, ce, hk, rfl, hG, hrow, hbel⟩ := hrel
    have RE := Lib.hid hrow
    have HL := Lib.hid (newReps_len k)
    have HZ := Lib.hid (newReps_succ k)
    clear hrow
    by_cases hk4 : k < 4
    · have hk1 : (k : Int) < 4 := by omega
      generalize newReps k = zs at RE HL HZ
      go_wp2_with fail
      refine wp_region_held_drew (S := fun _ => True) (by kernel_rfl) trivial (fun hHeld => ?_)
      refine introFinG (X := Option Addr × Nat × Nat) 0 #[true, true, true, true, true, true, true, true] (fun x T => (((((((T).setIfInBounds 11 (.pointer (some ⟨G, 1, none⟩))).setIfInBounds 12 (.slice ae k ce)).setIfInBounds 13 (.int .i64 k)).setIfInBounds 14 (.agg #[.int .i64 k, .int .i64 0, .bool true, .int .i64 1, .slice none 0 0, .slice none 0 0, .slice none 0 0])).setIfInBounds 15 (.slice (some ⟨x.2.2, 0, none⟩) 1 1)).setIfInBounds 16 (.slice x.1 (k + 1) x.2.1)).setIfInBounds 17 (.pointer (some ⟨G, 1, none⟩))) (fun x w' => w'.heap[G]? = some (.cells #[.int .i64 bad, .slice x.1 (k + 1) x.2.1, .slice none 0 0] 50 (0, 0)) ∧ Row w' (G + 1) 78 x.1 x.2.1 7 Rp.cs (zs ++ [⟨k, 0, true, 1⟩]) ∧ Below G wr w') ?_ (fun hfin => ?_)
      rotate_left
      · obtain ⟨wd, hwd, kwd⟩ : ∃ wd, wd = wr.drew ∧ Below wr.heap.size wr wd := ⟨_, rfl, Below.drew (Below.refl _ _)⟩
        rw [← hwd]
        clear hwd
        have RKd := Lib.hid kwd
        have lGG := lt_of_block hG
        have REd := Lib.hid (RE.out.below kwd)
        have hGd := Lib.hid (carryB kwd lGG hG)
        clear kwd
        refine wpAnyH_take (i := 0) (oi := _) (v := ?_) (by (simp only [List.getElem?_toArray]; rfl)) (by kernel_rfl) (by kernel_rfl) (by kernel_rfl) (by exact fun _ _ _ h => h) (Or.inl ⟨by rfl, ?_⟩) (by assumption) ?_
        rotate_left
        · intro wS hSw
          go_simp
          all_goals first | with_reducible rfl | rw [if_neg (by omega)]
        simp only [Act.put, List.setIfInBounds_toArray, List.set]
        refine wpAnyH_take (i := 2) (oi := _) (v := ?_) (by (simp only [List.getElem?_toArray]; rfl)) (by kernel_rfl) (by kernel_rfl) (by kernel_rfl) (by exact fun _ _ _ h => h) (Or.inl ⟨by rfl, ?_⟩) (by assumption) ?_
        rotate_left
        · intro wS hSw
          go_simp
          all_goals first | with_reducible rfl | rw [if_neg (by omega)]
        simp only [Act.put, List.setIfInBounds_toArray, List.set]
        refine wpAnyH_ready (rs := [1, 3]) (by kernel_rfl) (by simp) ?_
        refine AllReadyH.cons (o := _) (by (simp only [List.getElem?_toArray]; rfl)) (fun K hK => ?_) ?_
        · skip
          have cG := cell_of_block hGd.out
          have lG := lt_of_block hGd.out
          go_simp
          refine hK.out _ _ trivial (fun hHeld => ?_)
          clear hK K cG lG
          try simp only [Act.put, List.setIfInBounds_toArray, List.set]
          refine wpAnyH_ready (rs := [3]) (by kernel_rfl) (by simp) ?_
          refine AllReadyH.cons (o := _) (by (simp only [List.getElem?_toArray]; rfl)) (fun K hK => ?_) AllReadyH.nil
          go_simp
          refine (l5New_c k wd).mono ?_
          rintro e wdc ⟨rfl, kw'⟩
          have RKdc := Lib.hid (below_next RKd.out kw')
          have REdc := Lib.hid (REd.out.below kw')
          have hGdc := Lib.hid (carryB kw' (lt_of_block hGd.out) hGd.out)
          clear kw'
          refine hK.out _ _ trivial (fun hHeld => ?_)
          clear hK K
          try simp only [Act.put, List.setIfInBounds_toArray, List.set]
          refine wpAnyH_ready (rs := [4]) (by kernel_rfl) (by simp) ?_
          refine AllReadyH.cons (o := _) (by (simp only [List.getElem?_toArray]; rfl)) (fun K hK => ?_) AllReadyH.nil
          go_simp
          obtain ⟨wdcb, hw', sw', hvdcb, kw'⟩ := blocks1 wdc (.cells #[.int .i64 k, .int .i64 0, .bool true, .int .i64 1, .slice none 0 0, .slice none 0 0, .slice none 0 0] 78)
          rw [← hw']
          clear hw' sw'
          have RVdcb := Lib.hid (show RowsAt wdcb (some ⟨wdc.heap.size, 0, none⟩) 7 Rp.cs [⟨k, 0, true, 1⟩] from rows_of_block (R := Rp.cs) (zs := [⟨k, 0, true, 1⟩]) (fun _ => rfl) hvdcb)
          have RKdcb := Lib.hid (below_next RKdc.out kw')
          have REdcb := Lib.hid (REdc.out.below kw')
          have hGdcb := Lib.hid (carryB kw' (lt_of_block hGdc.out) hGdc.out)
          clear kw'
          refine hK.out _ _ trivial (fun hHeld => ?_)
          clear hK K
          try simp only [Act.put, List.setIfInBounds_toArray, List.set]
          refine wpAnyH_ready (rs := [5]) (by kernel_rfl) (by simp) ?_
          refine AllReadyH.cons (o := _) (by (simp only [List.getElem?_toArray]; rfl)) (fun K hK => ?_) AllReadyH.nil
          refine step_append_elt (by rfl) (.tmp 12) (.tmp 15) (by rfl) (k + 1) eltRp (by rfl) (by rfl) REdcb.out RVdcb.out HL.out rfl rfl (by simp only [maxLen]; omega) (by omega) (by have := lt_of_block hGdcb.out; omega) ?_
          intro xa xc wdcba q6
          have ge : ∀ b, rowBlk ae ce = some b → G + 1 ≤ b := fun b hb => (REdcb.out.blk hb).1
          have hGdcba := Lib.hid ((q6.grown.block G (lt_of_block hGdcb.out) (fun e => by have := ge _ e.symm; omega)).trans hGdcb.out)
          have REdcba := Lib.hid q6.row
          have RKdcba := Lib.hid (show Below G wr wdcba from (RKdcb.out.mono (Nat.le_of_lt lGG)).trans (q6.below (by have := lt_of_block hGdcb.out; omega) (fun b hb => by have := ge b hb; omega)))
          clear q6 ge
          refine hK.out _ _ trivial (fun hHeld => ?_)
          clear hK K
          try simp only [Act.put, List.setIfInBounds_toArray, List.set]
          refine wpAnyH_take (i := 6) (oi := _) (v := ?_) (by (simp only [List.getElem?_toArray]; rfl)) (by kernel_rfl) (by kernel_rfl) (by kernel_rfl) (by exact fun _ _ _ h => h) (Or.inl ⟨by rfl, ?_⟩) (by assumption) ?_
          rotate_left
          · intro wS hSw
            go_simp
            all_goals first | with_reducible rfl | rw [if_neg (by omega)]
          simp only [Act.put, List.setIfInBounds_toArray, List.set]
          refine wpAnyH_ready (rs := [7]) (by kernel_rfl) (by simp) ?_
          refine AllReadyH.cons (o := _) (by (simp only [List.getElem?_toArray]; rfl)) (fun K hK => ?_) AllReadyH.nil
          have cG := cell_of_block hGdcba.out
          have fG := unfrozen_of_block hGdcba.out
          have lG := lt_of_block hGdcba.out
          go_simp
          have hGdcbas := Lib.hid (block_setCell (i := 1) hGdcba.out (.slice xa (k + 1) xc))
          have REdcbas := Lib.hid (REdcba.out.setOther (p := ⟨G, 1, none⟩) (Nat.lt_succ_self G) (.slice xa (k + 1) xc))
          have RKdcbas := Lib.hid (RKdcba.out.setCell (p := ⟨G, 1, none⟩) (Nat.le_refl _) (.slice xa (k + 1) xc))
          clear cG fG lG
          refine hK.out _ _ trivial (fun hHeld => ?_)
          clear hK K
          try simp only [Act.put, List.setIfInBounds_toArray, List.set]
          refine hfin ⟨xa, xc, wdc.heap.size⟩ _ _ _ (by kernel_rfl) ?_ ⟨hGdcbas.out, REdcbas.out, RKdcbas.out⟩
          simp only [List.setIfInBounds_toArray, List.set]
        refine AllReadyH.cons (o := _) (by (simp only [List.getElem?_toArray]; rfl)) (fun K hK => ?_) ?_
        · skip
          go_simp
          refine (l5New_c k wd).mono ?_
          rintro e wdc ⟨rfl, kw'⟩
          have RKdc := Lib.hid (below_next RKd.out kw')
          have REdc := Lib.hid (REd.out.below kw')
          have hGdc := Lib.hid (carryB kw' (lt_of_block hGd.out) hGd.out)
          clear kw'
          refine hK.out _ _ trivial (fun hHeld => ?_)
          clear hK K
          try simp only [Act.put, List.setIfInBounds_toArray, List.set]
          refine wpAnyH_ready (rs := [1, 4]) (by kernel_rfl) (by simp) ?_
          refine AllReadyH.cons (o := _) (by (simp only [List.getElem?_toArray]; rfl)) (fun K hK => ?_) ?_
          · skip
            have cG := cell_of_block hGdc.out
            have lG := lt_of_block hGdc.out
            go_simp
            refine hK.out _ _ trivial (fun hHeld => ?_)
            clear hK K cG lG
            try simp only [Act.put, List.setIfInBounds_toArray, List.set]
            refine wpAnyH_ready (rs := [4]) (by kernel_rfl) (by simp) ?_
            refine AllReadyH.cons (o := _) (by (simp only [List.getElem?_toArray]; rfl)) (fun K hK => ?_) AllReadyH.nil
            go_simp
            obtain ⟨wdcb, hw', sw', hvdcb, kw'⟩ := blocks1 wdc (.cells #[.int .i64 k, .int .i64 0, .bool true, .int .i64 1, .slice none 0 0, .slice none 0 0, .slice none 0 0] 78)
            rw [← hw']
            clear hw' sw'
            have RVdcb := Lib.hid (show RowsAt wdcb (some ⟨wdc.heap.size, 0, none⟩) 7 Rp.cs [⟨k, 0, true, 1⟩] from rows_of_block (R := Rp.cs) (zs := [⟨k, 0, true, 1⟩]) (fun _ => rfl) hvdcb)
            have RKdcb := Lib.hid (below_next RKdc.out kw')
            have REdcb := Lib.hid (REdc.out.below kw')
            have hGdcb := Lib.hid (carryB kw' (lt_of_block hGdc.out) hGdc.out)
            clear kw'
            refine hK.out _ _ trivial (fun hHeld => ?_)
            clear hK K
            try simp only [Act.put, List.setIfInBounds_toArray, List.set]
            refine wpAnyH_ready (rs := [5]) (by kernel_rfl) (by simp) ?_
            refine AllReadyH.cons (o := _) (by (simp only [List.getElem?_toArray]; rfl)) (fun K hK => ?_) AllReadyH.nil
            refine step_append_elt (by rfl) (.tmp 12) (.tmp 15) (by rfl) (k + 1) eltRp (by rfl) (by rfl) REdcb.out RVdcb.out HL.out rfl rfl (by simp only [maxLen]; omega) (by omega) (by have := lt_of_block hGdcb.out; omega) ?_
            intro xa xc wdcba q6
            have ge : ∀ b, rowBlk ae ce = some b → G + 1 ≤ b := fun b hb => (REdcb.out.blk hb).1
            have hGdcba := Lib.hid ((q6.grown.block G (lt_of_block hGdcb.out) (fun e => by have := ge _ e.symm; omega)).trans hGdcb.out)
            have REdcba := Lib.hid q6.row
            have RKdcba := Lib.hid (show Below G wr wdcba from (RKdcb.out.mono (Nat.le_of_lt lGG)).trans (q6.below (by have := lt_of_block hGdcb.out; omega) (fun b hb => by have := ge b hb; omega)))
            clear q6 ge
            refine hK.out _ _ trivial (fun hHeld => ?_)
            clear hK K
            try simp only [Act.put, List.setIfInBounds_toArray, List.set]
            refine wpAnyH_take (i := 6) (oi := _) (v := ?_) (by (simp only [List.getElem?_toArray]; rfl)) (by kernel_rfl) (by kernel_rfl) (by kernel_rfl) (by exact fun _ _ _ h => h) (Or.inl ⟨by rfl, ?_⟩) (by assumption) ?_
            rotate_left
            · intro wS hSw
              go_simp
              all_goals first | with_reducible rfl | rw [if_neg (by omega)]
            simp only [Act.put, List.setIfInBounds_toArray, List.set]
            refine wpAnyH_ready (rs := [7]) (by kernel_rfl) (by simp) ?_
            refine AllReadyH.cons (o := _) (by (simp only [List.getElem?_toArray]; rfl)) (fun K hK => ?_) AllReadyH.nil
            have cG := cell_of_block hGdcba.out
            have fG := unfrozen_of_block hGdcba.out
            have lG := lt_of_block hGdcba.out
            go_simp
            have hGdcbas := Lib.hid (block_setCell (i := 1) hGdcba.out (.slice xa (k + 1) xc))
            have REdcbas := Lib.hid (REdcba.out.setOther (p := ⟨G, 1, none⟩) (Nat.lt_succ_self G) (.slice xa (k + 1) xc))
            have RKdcbas := Lib.hid (RKdcba.out.setCell (p := ⟨G, 1, none⟩) (Nat.le_refl _) (.slice xa (k + 1) xc))
            clear cG fG lG
            refine hK.out _ _ trivial (fun hHeld => ?_)
            clear hK K
            try simp only [Act.put, List.setIfInBounds_toArray, List.set]
            refine hfin ⟨xa, xc, wdc.heap.size⟩ _ _ _ (by kernel_rfl) ?_ ⟨hGdcbas.out, REdcbas.out, RKdcbas.out⟩
            simp only [List.setIfInBounds_toArray, List.set]
          refine AllReadyH.cons (o := _) (by (simp only [List.getElem?_toArray]; rfl)) (fun K hK => ?_) ?_
          · skip
            go_simp
            obtain ⟨wdcb, hw', sw', hvdcb, kw'⟩ := blocks1 wdc (.cells #[.int .i64 k, .int .i64 0, .bool true, .int .i64 1, .slice none 0 0, .slice none 0 0, .slice none 0 0] 78)
            rw [← hw']
            clear hw' sw'
            have RVdcb := Lib.hid (show RowsAt wdcb (some ⟨wdc.heap.size, 0, none⟩) 7 Rp.cs [⟨k, 0, true, 1⟩] from rows_of_block (R := Rp.cs) (zs := [⟨k, 0, true, 1⟩]) (fun _ => rfl) hvdcb)
            have RKdcb := Lib.hid (below_next RKdc.out kw')
            have REdcb := Lib.hid (REdc.out.below kw')
            have hGdcb := Lib.hid (carryB kw' (lt_of_block hGdc.out) hGdc.out)
            clear kw'
            refine hK.out _ _ trivial (fun hHeld => ?_)
            clear hK K
            try simp only [Act.put, List.setIfInBounds_toArray, List.set]
            refine wpAnyH_ready (rs := [1]) (by kernel_rfl) (by simp) ?_
            refine AllReadyH.cons (o := _) (by (simp only [List.getElem?_toArray]; rfl)) (fun K hK => ?_) AllReadyH.nil
            have cG := cell_of_block hGdcb.out
            have lG := lt_of_block hGdcb.out
            go_simp
            refine hK.out _ _ trivial (fun hHeld => ?_)
            clear hK K cG lG
            try simp only [Act.put, List.setIfInBounds_toArray, List.set]
            refine wpAnyH_ready (rs := [5]) (by kernel_rfl) (by simp) ?_
            refine AllReadyH.cons (o := _) (by (simp only [List.getElem?_toArray]; rfl)) (fun K hK => ?_) AllReadyH.nil
            refine step_append_elt (by rfl) (.tmp 12) (.tmp 15) (by rfl) (k + 1) eltRp (by rfl) (by rfl) REdcb.out RVdcb.out HL.out rfl rfl (by simp only [maxLen]; omega) (by omega) (by have := lt_of_block hGdcb.out; omega) ?_
            intro xa xc wdcba q6
            have ge : ∀ b, rowBlk ae ce = some b → G + 1 ≤ b := fun b hb => (REdcb.out.blk hb).1
            have hGdcba := Lib.hid ((q6.grown.block G (lt_of_block hGdcb.out) (fun e => by have := ge _ e.symm; omega)).trans hGdcb.out)
            have REdcba := Lib.hid q6.row
            have RKdcba := Lib.hid (show Below G wr wdcba from (RKdcb.out.mono (Nat.le_of_lt lGG)).trans (q6.below (by have := lt_of_block hGdcb.out; omega) (fun b hb => by have := ge b hb; omega)))
            clear q6 ge
            refine hK.out _ _ trivial (fun hHeld => ?_)
            clear hK K
            try simp only [Act.put, List.setIfInBounds_toArray, List.set]
            refine wpAnyH_take (i := 6) (oi := _) (v := ?_) (by (simp only [List.getElem?_toArray]; rfl)) (by kernel_rfl) (by kernel_rfl) (by kernel_rfl) (by exact fun _ _ _ h => h) (Or.inl ⟨by rfl, ?_⟩) (by assumption) ?_
            rotate_left
            · intro wS hSw
              go_simp
              all_goals first | with_reducible rfl | rw [if_neg (by omega)]
            simp only [Act.put, List.setIfInBounds_toArray, List.set]
            refine wpAnyH_ready (rs := [7]) (by kernel_rfl) (by simp) ?_
            refine AllReadyH.cons (o := _) (by (simp only [List.getElem?_toArray]; rfl)) (fun K hK => ?_) AllReadyH.nil
            have cG := cell_of_block hGdcba.out
            have fG := unfrozen_of_block hGdcba.out
            have lG := lt_of_block hGdcba.out
            go_simp
            have hGdcbas := Lib.hid (block_setCell (i := 1) hGdcba.out (.slice xa (k + 1) xc))
            have REdcbas := Lib.hid (REdcba.out.setOther (p := ⟨G, 1, none⟩) (Nat.lt_succ_self G) (.slice xa (k + 1) xc))
            have RKdcbas := Lib.hid (RKdcba.out.setCell (p := ⟨G, 1, none⟩) (Nat.le_refl _) (.slice xa (k + 1) xc))
            clear cG fG lG
            refine hK.out _ _ trivial (fun hHeld => ?_)
            clear hK K
            try simp only [Act.put, List.setIfInBounds_toArray, List.set]
            refine hfin ⟨xa, xc, wdc.heap.size⟩ _ _ _ (by kernel_rfl) ?_ ⟨hGdcbas.out, REdcbas.out, RKdcbas.out⟩
            simp only [List.setIfInBounds_toArray, List.set]
          exact AllReadyH.nil
        exact AllReadyH.nil
      rintro ⟨xa, xc, xb⟩ w2 ⟨hGn, REn, kA⟩
      simp only at hGn REn kA ⊢
      simp only [List.setIfInBounds_toArray, List.set]
      refine wpAnyH_done (by kernel_rfl) ?_ _
      have hb2 := hbel.trans kA
      go_wp2_with fail
      go_roundw
      case rel => exact ⟨k + 1, xa, xc, by omega, by go_num, hGn, by rw [HZ.out]; exact REn, hb2⟩
      case measure => simp [intOf]; omega
    · obtain rfl : k = 4 := by omega
      have hRG : w.heap.size < G + 1 := by have := HGE.out; omega
      have R4 := Lib.hid ((((RE.out.setOther (p := ⟨w.heap.size, 0, none⟩) hRG (.int .i64 bad)).setOther (p := ⟨w.heap.size, 1, none⟩) hRG (.slice ae 4 ce)).setOther (p := ⟨w.heap.size, 2, none⟩) hRG (.slice none 0 0)).low (Nat.le_of_lt hRG))
      have KK : Below w.heap.size w wr := kW.trans (hbel.mono (by have := HGE.out; omega))
      have aR := carryB hbel (by have := HGE.out; omega) aW
      have cG := cell_of_block hG
      have lG := lt_of_block hG
      have cR := cell_of_block aR
      have fR := unfrozen_of_block aR
      have lR := lt_of_block aR
      clear hG aW RE HL HZ hbel kW bW hRG
      have hn4 : ¬ ((4 : Nat) : Int) < 4 := by omega
      go_wp2_with fail
      refine bodyPost_ret (v := .agg #[.int .i64 bad, .slice ae 4 ce, .slice none 0 0]) (by simp [results, Try.results43, go_sem, cR]) rfl ?_
      exact ⟨ae, ce, rfl, R4.out, (by repeat' (first | with_reducible exact Below.refl _ _ | with_reducible assumption | with_reducible refine Below.alloc ?_ ?_ _ | with_reducible refine Below.drew ?_ | with_reducible refine Below.setCell ?_ ?_ _ | omega | (simp; omega) | (simp; done)))⟩

set_option maxRecDepth 100000 in
set_option maxHeartbeats 1000000 in
theorem sWorldNew_c (bad : Int) (w : World) : Calls Try.prog 18 #[.int .i64 bad] w (WorldGot bad w) := by
  unfold WorldGot worldReps worldBad worldN
  cases h : inB bad 0 3 with
  | true =>
    go_enter Try.func18, Try.ntmps18
    go_wp2_with fail
    refine (l1In_c _ _ _ _).mono ?_
    rintro e w1 ⟨rfl, rfl⟩
    rw [h]
    obtain ⟨W, hW, sW, aW, kW⟩ := blocks1 w (.cells #[.int .i64 0, .slice none 0 0, .slice none 0 0] 50)
    rw [← hW]
    clear hW
    go_wp2_with fail
    refine (l6New_c bad _).mono ?_
    rintro e w1 ⟨a, c, rfl, r1, k1⟩
    have hRG : w.heap.size < W.heap.size := lt_of_block aW
    have R4 := Lib.hid ((((r1.setOther (p := ⟨w.heap.size, 0, none⟩) hRG (.int .i64 bad)).setOther (p := ⟨w.heap.size, 1, none⟩) hRG (.slice a 4 c)).setOther (p := ⟨w.heap.size, 2, none⟩) hRG (.slice none 0 0)).low (Nat.le_of_lt hRG))
    have aW1 := carryB k1 (by omega) aW
    have K1 := below_next kW k1
    clear r1 k1 kW aW sW
    have c1 := cell_of_block aW1
    have f1 := unfrozen_of_block aW1
    have l1 := lt_of_block aW1
    go_wp2_with fail
    refine bodyPost_ret (v := .agg #[.int .i64 bad, .slice a 4 c, .slice none 0 0]) (by simp [results, Try.results18, go_sem, c1]) rfl ?_
    exact ⟨a, c, rfl, R4.out, (by repeat' (first | with_reducible exact Below.refl _ _ | with_reducible assumption | with_reducible refine Below.alloc ?_ ?_ _ | with_reducible refine Below.drew ?_ | with_reducible refine Below.setCell ?_ ?_ _ | omega | (simp; omega) | (simp; done)))⟩
  | false =>
    go_enter Try.func18, Try.ntmps18
    go_wp2_with fail
    refine (l1In_c _ _ _ _).mono ?_
    rintro e w1 ⟨rfl, rfl⟩
    rw [h]
    obtain ⟨W, hW, sW, aW, kW⟩ := blocks1 w (.cells #[.int .i64 0, .slice none 0 0, .slice none 0 0] 50)
    rw [← hW]
    clear hW
    have c1 := cell_of_block aW
    have f1 := unfrozen_of_block aW
    have l1 := lt_of_block aW
    go_wp2_with fail
    refine bodyPost_ret (v := .agg #[.int .i64 0, .slice none 0 0, .slice none 0 0]) (by simp [results, Try.results18, go_sem, c1]) rfl ?_
    exact ⟨none, 0, rfl, Row.nil _ _ _ _ _ _, (by repeat' (first | with_reducible exact Below.refl _ _ | with_reducible assumption | with_reducible refine Below.alloc ?_ ?_ _ | with_reducible refine Below.drew ?_ | with_reducible refine Below.setCell ?_ ?_ _ | omega | (simp; omega) | (simp; done)))⟩

/-- A new world of the program: a list without room. -/
def WorldOwn (n : Int) (w : World) (e : Ending) (w' : World) : Prop :=
  ∃ (a : Option Addr), e = .returned (.agg #[.int .i64 (worldBad n), .slice a (worldN n) (worldN n), .slice none 0 0]) ∧ Row w' w.heap.size 78 a (worldN n) 7 Rp.cs (worldReps n) ∧ Below w.heap.size w w'
set_option maxRecDepth 100000 in
set_option maxHeartbeats 4000000 in
theorem WorldNew_c (bad : Int) (w : World) : Calls Try.prog 19 #[.int .i64 bad] w (WorldOwn bad w) := by
  unfold WorldOwn worldReps worldBad worldN
  cases h : inB bad 0 3 with
  | true =>
    go_enter Try.func19, Try.ntmps19
    go_wp2_with fail
    refine (isKeeper_c _ _).mono ?_
    rintro e w1 ⟨rfl, rfl⟩
    rw [h]
    clear h
    go_wp2_with fail
    obtain ⟨W, hW, sW, aW, bW, kW⟩ := blocks2 w (.cells #[.int .i64 0, .slice none 0 0, .slice none 0 0] 50) (.cells #[.int .i64 bad, .slice none 0 0, .slice none 0 0] 50)
    rw [← hW]
    clear hW
    obtain ⟨G, hGe⟩ : ∃ G, G = w.heap.size + 1 := ⟨_, rfl⟩
    rw [← hGe] at bW ⊢
    have HGE := Lib.hid hGe
    clear hGe
    have lW := lt_of_block bW
    go_loopw [11] (fun i wr => ∃ (k : Nat) (ae : Option Addr) (ce : Nat), k ≤ 4 ∧ i = .int .i64 k ∧ wr.heap[G]? = some (.cells #[.int .i64 bad, .slice ae k ce, .slice none 0 0] 50 (0, 0)) ∧ Row wr (G + 1) 78 ae ce 7 Rp.cs (newReps k) ∧ Below G W wr) (fun i _ => 4 - (intOf i).toNat)
    case atStart => exact ⟨0, none, 0, by omega, rfl, bW, Row.nil _ _ _ _ _ _, Below.refl _ _⟩
    case round =>
      obtain ⟨k, ae, ce, hk, rfl, hG, hrow, hbel⟩ := hrel
      have RE := Lib.hid hrow
      have HL := Lib.hid (newReps_len k)
      have HZ := Lib.hid (newReps_succ k)
      by_cases hk4 : k < 4
      · have hk1 : (k : Int) < 4 := by omega
        clear hrow
        generalize newReps k = zs at RE HL HZ
        go_wp2_with fail
        refine wp_region_held_drew (S := fun _ => True) (by kernel_rfl) trivial (fun hHeld => ?_)
        refine introFinG (X := Option Addr × Nat × Nat) 0 #[true, true, true, true, true, true, true, true] (fun x T => (((((((T).setIfInBounds 14 (.pointer (some ⟨G, 1, none⟩))).setIfInBounds 15 (.slice ae k ce)).setIfInBounds 16 (.int .i64 k)).setIfInBounds 17 (.agg #[.int .i64 k, .int .i64 0, .bool true, .int .i64 1, .slice none 0 0, .slice none 0 0, .slice none 0 0])).setIfInBounds 18 (.slice (some ⟨x.2.2, 0, none⟩) 1 1)).setIfInBounds 19 (.slice x.1 (k + 1) x.2.1)).setIfInBounds 20 (.pointer (some ⟨G, 1, none⟩))) (fun x w' => w'.heap[G]? = some (.cells #[.int .i64 bad, .slice x.1 (k + 1) x.2.1, .slice none 0 0] 50 (0, 0)) ∧ Row w' (G + 1) 78 x.1 x.2.1 7 Rp.cs (zs ++ [⟨k, 0, true, 1⟩]) ∧ Below G wr w') ?_ (fun hfin => ?_)
        rotate_left
        · obtain ⟨wd, hwd, kwd⟩ : ∃ wd, wd = wr.drew ∧ Below wr.heap.size wr wd := ⟨_, rfl, Below.drew (Below.refl _ _)⟩
          rw [← hwd]
          clear hwd
          have RKd := Lib.hid kwd
          have lGG := lt_of_block hG
          have REd := Lib.hid (RE.out.below kwd)
          have hGd := Lib.hid (carryB kwd lGG hG)
          clear kwd
          refine wpAnyH_take (i := 0) (oi := _) (v := ?_) (by (simp only [List.getElem?_toArray]; rfl)) (by kernel_rfl) (by kernel_rfl) (by kernel_rfl) (by exact fun _ _ _ h => h) (Or.inl ⟨by rfl, ?_⟩) (by assumption) ?_
          rotate_left
          · intro wS hSw
            go_simp
            all_goals first | with_reducible rfl | rw [if_neg (by omega)]
          simp only [Act.put, List.setIfInBounds_toArray, List.set]
          refine wpAnyH_take (i := 2) (oi := _) (v := ?_) (by (simp only [List.getElem?_toArray]; rfl)) (by kernel_rfl) (by kernel_rfl) (by kernel_rfl) (by exact fun _ _ _ h => h) (Or.inl ⟨by rfl, ?_⟩) (by assumption) ?_
          rotate_left
          · intro wS hSw
            go_simp
            all_goals first | with_reducible rfl | rw [if_neg (by omega)]
          simp only [Act.put, List.setIfInBounds_toArray, List.set]
          refine wpAnyH_ready (rs := [1, 3]) (by kernel_rfl) (by simp) ?_
          refine AllReadyH.cons (o := _) (by (simp only [List.getElem?_toArray]; rfl)) (fun K hK => ?_) ?_
          · skip
            have cG := cell_of_block hGd.out
            have lG := lt_of_block hGd.out
            go_simp
            refine hK.out _ _ trivial (fun hHeld => ?_)
            clear hK K cG lG
            try simp only [Act.put, List.setIfInBounds_toArray, List.set]
            refine wpAnyH_ready (rs := [3]) (by kernel_rfl) (by simp) ?_
            refine AllReadyH.cons (o := _) (by (simp only [List.getElem?_toArray]; rfl)) (fun K hK => ?_) AllReadyH.nil
            go_simp
            refine (RepNew_k k wd hk4).mono ?_
            rintro e wdc ⟨rfl, kw'⟩
            have RKdc := Lib.hid (below_next RKd.out kw')
            have REdc := Lib.hid (REd.out.below kw')
            have hGdc := Lib.hid (carryB kw' (lt_of_block hGd.out) hGd.out)
            clear kw'
            refine hK.out _ _ trivial (fun hHeld => ?_)
            clear hK K
            try simp only [Act.put, List.setIfInBounds_toArray, List.set]
            refine wpAnyH_ready (rs := [4]) (by kernel_rfl) (by simp) ?_
            refine AllReadyH.cons (o := _) (by (simp only [List.getElem?_toArray]; rfl)) (fun K hK => ?_) AllReadyH.nil
            go_simp
            obtain ⟨wdcb, hw', sw', hvdcb, kw'⟩ := blocks1 wdc (.cells #[.int .i64 k, .int .i64 0, .bool true, .int .i64 1, .slice none 0 0, .slice none 0 0, .slice none 0 0] 78)
            rw [← hw']
            clear hw' sw'
            have RVdcb := Lib.hid (show RowsAt wdcb (some ⟨wdc.heap.size, 0, none⟩) 7 Rp.cs [⟨k, 0, true, 1⟩] from rows_of_block (R := Rp.cs) (zs := [⟨k, 0, true, 1⟩]) (fun _ => rfl) hvdcb)
            have RKdcb := Lib.hid (below_next RKdc.out kw')
            have REdcb := Lib.hid (REdc.out.below kw')
            have hGdcb := Lib.hid (carryB kw' (lt_of_block hGdc.out) hGdc.out)
            clear kw'
            refine hK.out _ _ trivial (fun hHeld => ?_)
            clear hK K
            try simp only [Act.put, List.setIfInBounds_toArray, List.set]
            refine wpAnyH_ready (rs := [5]) (by kernel_rfl) (by simp) ?_
            refine AllReadyH.cons (o := _) (by (simp only [List.getElem?_toArray]; rfl)) (fun K hK => ?_) AllReadyH.nil
            refine step_append_elt (by rfl) (.tmp 15) (.tmp 18) (by rfl) (k + 1) eltRp (by rfl) (by rfl) REdcb.out RVdcb.out HL.out rfl rfl (by simp only [maxLen]; omega) (by omega) (by have := lt_of_block hGdcb.out; omega) ?_
            intro xa xc wdcba q6
            have ge : ∀ b, rowBlk ae ce = some b → G + 1 ≤ b := fun b hb => (REdcb.out.blk hb).1
            have hGdcba := Lib.hid ((q6.grown.block G (lt_of_block hGdcb.out) (fun e => by have := ge _ e.symm; omega)).trans hGdcb.out)
            have REdcba := Lib.hid q6.row
            have RKdcba := Lib.hid (show Below G wr wdcba from (RKdcb.out.mono (Nat.le_of_lt lGG)).trans (q6.below (by have := lt_of_block hGdcb.out; omega) (fun b hb => by have := ge b hb; omega)))
            clear q6 ge
            refine hK.out _ _ trivial (fun hHeld => ?_)
            clear hK K
            try simp only [Act.put, List.setIfInBounds_toArray, List.set]
            refine wpAnyH_take (i := 6) (oi := _) (v := ?_) (by (simp only [List.getElem?_toArray]; rfl)) (by kernel_rfl) (by kernel_rfl) (by kernel_rfl) (by exact fun _ _ _ h => h) (Or.inl ⟨by rfl, ?_⟩) (by assumption) ?_
            rotate_left
            · intro wS hSw
              go_simp
              all_goals first | with_reducible rfl | rw [if_neg (by omega)]
            simp only [Act.put, List.setIfInBounds_toArray, List.set]
            refine wpAnyH_ready (rs := [7]) (by kernel_rfl) (by simp) ?_
            refine AllReadyH.cons (o := _) (by (simp only [List.getElem?_toArray]; rfl)) (fun K hK => ?_) AllReadyH.nil
            have cG := cell_of_block hGdcba.out
            have fG := unfrozen_of_block hGdcba.out
            have lG := lt_of_block hGdcba.out
            go_simp
            have hGdcbas := Lib.hid (block_setCell (i := 1) hGdcba.out (.slice xa (k + 1) xc))
            have REdcbas := Lib.hid (REdcba.out.setOther (p := ⟨G, 1, none⟩) (Nat.lt_succ_self G) (.slice xa (k + 1) xc))
            have RKdcbas := Lib.hid (RKdcba.out.setCell (p := ⟨G, 1, none⟩) (Nat.le_refl _) (.slice xa (k + 1) xc))
            clear cG fG lG
            refine hK.out _ _ trivial (fun hHeld => ?_)
            clear hK K
            try simp only [Act.put, List.setIfInBounds_toArray, List.set]
            refine hfin ⟨xa, xc, wdc.heap.size⟩ _ _ _ (by kernel_rfl) ?_ ⟨hGdcbas.out, REdcbas.out, RKdcbas.out⟩
            simp only [List.setIfInBounds_toArray, List.set]
          refine AllReadyH.cons (o := _) (by (simp only [List.getElem?_toArray]; rfl)) (fun K hK => ?_) ?_
          · skip
            go_simp
            refine (RepNew_k k wd hk4).mono ?_
            rintro e wdc ⟨rfl, kw'⟩
            have RKdc := Lib.hid (below_next RKd.out kw')
            have REdc := Lib.hid (REd.out.below kw')
            have hGdc := Lib.hid (carryB kw' (lt_of_block hGd.out) hGd.out)
            clear kw'
            refine hK.out _ _ trivial (fun hHeld => ?_)
            clear hK K
            try simp only [Act.put, List.setIfInBounds_toArray, List.set]
            refine wpAnyH_ready (rs := [1, 4]) (by kernel_rfl) (by simp) ?_
            refine AllReadyH.cons (o := _) (by (simp only [List.getElem?_toArray]; rfl)) (fun K hK => ?_) ?_
            · skip
              have cG := cell_of_block hGdc.out
              have lG := lt_of_block hGdc.out
              go_simp
              refine hK.out _ _ trivial (fun hHeld => ?_)
              clear hK K cG lG
              try simp only [Act.put, List.setIfInBounds_toArray, List.set]
              refine wpAnyH_ready (rs := [4]) (by kernel_rfl) (by simp) ?_
              refine AllReadyH.cons (o := _) (by (simp only [List.getElem?_toArray]; rfl)) (fun K hK => ?_) AllReadyH.nil
              go_simp
              obtain ⟨wdcb, hw', sw', hvdcb, kw'⟩ := blocks1 wdc (.cells #[.int .i64 k, .int .i64 0, .bool true, .int .i64 1, .slice none 0 0, .slice none 0 0, .slice none 0 0] 78)
              rw [← hw']
              clear hw' sw'
              have RVdcb := Lib.hid (show RowsAt wdcb (some ⟨wdc.heap.size, 0, none⟩) 7 Rp.cs [⟨k, 0, true, 1⟩] from rows_of_block (R := Rp.cs) (zs := [⟨k, 0, true, 1⟩]) (fun _ => rfl) hvdcb)
              have RKdcb := Lib.hid (below_next RKdc.out kw')
              have REdcb := Lib.hid (REdc.out.below kw')
              have hGdcb := Lib.hid (carryB kw' (lt_of_block hGdc.out) hGdc.out)
              clear kw'
              refine hK.out _ _ trivial (fun hHeld => ?_)
              clear hK K
              try simp only [Act.put, List.setIfInBounds_toArray, List.set]
              refine wpAnyH_ready (rs := [5]) (by kernel_rfl) (by simp) ?_
              refine AllReadyH.cons (o := _) (by (simp only [List.getElem?_toArray]; rfl)) (fun K hK => ?_) AllReadyH.nil
              refine step_append_elt (by rfl) (.tmp 15) (.tmp 18) (by rfl) (k + 1) eltRp (by rfl) (by rfl) REdcb.out RVdcb.out HL.out rfl rfl (by simp only [maxLen]; omega) (by omega) (by have := lt_of_block hGdcb.out; omega) ?_
              intro xa xc wdcba q6
              have ge : ∀ b, rowBlk ae ce = some b → G + 1 ≤ b := fun b hb => (REdcb.out.blk hb).1
              have hGdcba := Lib.hid ((q6.grown.block G (lt_of_block hGdcb.out) (fun e => by have := ge _ e.symm; omega)).trans hGdcb.out)
              have REdcba := Lib.hid q6.row
              have RKdcba := Lib.hid (show Below G wr wdcba from (RKdcb.out.mono (Nat.le_of_lt lGG)).trans (q6.below (by have := lt_of_block hGdcb.out; omega) (fun b hb => by have := ge b hb; omega)))
              clear q6 ge
              refine hK.out _ _ trivial (fun hHeld => ?_)
              clear hK K
              try simp only [Act.put, List.setIfInBounds_toArray, List.set]
              refine wpAnyH_take (i := 6) (oi := _) (v := ?_) (by (simp only [List.getElem?_toArray]; rfl)) (by kernel_rfl) (by kernel_rfl) (by kernel_rfl) (by exact fun _ _ _ h => h) (Or.inl ⟨by rfl, ?_⟩) (by assumption) ?_
              rotate_left
              · intro wS hSw
                go_simp
                all_goals first | with_reducible rfl | rw [if_neg (by omega)]
              simp only [Act.put, List.setIfInBounds_toArray, List.set]
              refine wpAnyH_ready (rs := [7]) (by kernel_rfl) (by simp) ?_
              refine AllReadyH.cons (o := _) (by (simp only [List.getElem?_toArray]; rfl)) (fun K hK => ?_) AllReadyH.nil
              have cG := cell_of_block hGdcba.out
              have fG := unfrozen_of_block hGdcba.out
              have lG := lt_of_block hGdcba.out
              go_simp
              have hGdcbas := Lib.hid (block_setCell (i := 1) hGdcba.out (.slice xa (k + 1) xc))
              have REdcbas := Lib.hid (REdcba.out.setOther (p := ⟨G, 1, none⟩) (Nat.lt_succ_self G) (.slice xa (k + 1) xc))
              have RKdcbas := Lib.hid (RKdcba.out.setCell (p := ⟨G, 1, none⟩) (Nat.le_refl _) (.slice xa (k + 1) xc))
              clear cG fG lG
              refine hK.out _ _ trivial (fun hHeld => ?_)
              clear hK K
              try simp only [Act.put, List.setIfInBounds_toArray, List.set]
              refine hfin ⟨xa, xc, wdc.heap.size⟩ _ _ _ (by kernel_rfl) ?_ ⟨hGdcbas.out, REdcbas.out, RKdcbas.out⟩
              simp only [List.setIfInBounds_toArray, List.set]
            refine AllReadyH.cons (o := _) (by (simp only [List.getElem?_toArray]; rfl)) (fun K hK => ?_) ?_
            · skip
              go_simp
              obtain ⟨wdcb, hw', sw', hvdcb, kw'⟩ := blocks1 wdc (.cells #[.int .i64 k, .int .i64 0, .bool true, .int .i64 1, .slice none 0 0, .slice none 0 0, .slice none 0 0] 78)
              rw [← hw']
              clear hw' sw'
              have RVdcb := Lib.hid (show RowsAt wdcb (some ⟨wdc.heap.size, 0, none⟩) 7 Rp.cs [⟨k, 0, true, 1⟩] from rows_of_block (R := Rp.cs) (zs := [⟨k, 0, true, 1⟩]) (fun _ => rfl) hvdcb)
              have RKdcb := Lib.hid (below_next RKdc.out kw')
              have REdcb := Lib.hid (REdc.out.below kw')
              have hGdcb := Lib.hid (carryB kw' (lt_of_block hGdc.out) hGdc.out)
              clear kw'
              refine hK.out _ _ trivial (fun hHeld => ?_)
              clear hK K
              try simp only [Act.put, List.setIfInBounds_toArray, List.set]
              refine wpAnyH_ready (rs := [1]) (by kernel_rfl) (by simp) ?_
              refine AllReadyH.cons (o := _) (by (simp only [List.getElem?_toArray]; rfl)) (fun K hK => ?_) AllReadyH.nil
              have cG := cell_of_block hGdcb.out
              have lG := lt_of_block hGdcb.out
              go_simp
              refine hK.out _ _ trivial (fun hHeld => ?_)
              clear hK K cG lG
              try simp only [Act.put, List.setIfInBounds_toArray, List.set]
              refine wpAnyH_ready (rs := [5]) (by kernel_rfl) (by simp) ?_
              refine AllReadyH.cons (o := _) (by (simp only [List.getElem?_toArray]; rfl)) (fun K hK => ?_) AllReadyH.nil
              refine step_append_elt (by rfl) (.tmp 15) (.tmp 18) (by rfl) (k + 1) eltRp (by rfl) (by rfl) REdcb.out RVdcb.out HL.out rfl rfl (by simp only [maxLen]; omega) (by omega) (by have := lt_of_block hGdcb.out; omega) ?_
              intro xa xc wdcba q6
              have ge : ∀ b, rowBlk ae ce = some b → G + 1 ≤ b := fun b hb => (REdcb.out.blk hb).1
              have hGdcba := Lib.hid ((q6.grown.block G (lt_of_block hGdcb.out) (fun e => by have := ge _ e.symm; omega)).trans hGdcb.out)
              have REdcba := Lib.hid q6.row
              have RKdcba := Lib.hid (show Below G wr wdcba from (RKdcb.out.mono (Nat.le_of_lt lGG)).trans (q6.below (by have := lt_of_block hGdcb.out; omega) (fun b hb => by have := ge b hb; omega)))
              clear q6 ge
              refine hK.out _ _ trivial (fun hHeld => ?_)
              clear hK K
              try simp only [Act.put, List.setIfInBounds_toArray, List.set]
              refine wpAnyH_take (i := 6) (oi := _) (v := ?_) (by (simp only [List.getElem?_toArray]; rfl)) (by kernel_rfl) (by kernel_rfl) (by kernel_rfl) (by exact fun _ _ _ h => h) (Or.inl ⟨by rfl, ?_⟩) (by assumption) ?_
              rotate_left
              · intro wS hSw
                go_simp
                all_goals first | with_reducible rfl | rw [if_neg (by omega)]
              simp only [Act.put, List.setIfInBounds_toArray, List.set]
              refine wpAnyH_ready (rs := [7]) (by kernel_rfl) (by simp) ?_
              refine AllReadyH.cons (o := _) (by (simp only [List.getElem?_toArray]; rfl)) (fun K hK => ?_) AllReadyH.nil
              have cG := cell_of_block hGdcba.out
              have fG := unfrozen_of_block hGdcba.out
              have lG := lt_of_block hGdcba.out
              go_simp
              have hGdcbas := Lib.hid (block_setCell (i := 1) hGdcba.out (.slice xa (k + 1) xc))
              have REdcbas := Lib.hid (REdcba.out.setOther (p := ⟨G, 1, none⟩) (Nat.lt_succ_self G) (.slice xa (k + 1) xc))
              have RKdcbas := Lib.hid (RKdcba.out.setCell (p := ⟨G, 1, none⟩) (Nat.le_refl _) (.slice xa (k + 1) xc))
              clear cG fG lG
              refine hK.out _ _ trivial (fun hHeld => ?_)
              clear hK K
              try simp only [Act.put, List.setIfInBounds_toArray, List.set]
              refine hfin ⟨xa, xc, wdc.heap.size⟩ _ _ _ (by kernel_rfl) ?_ ⟨hGdcbas.out, REdcbas.out, RKdcbas.out⟩
              simp only [List.setIfInBounds_toArray, List.set]
            exact AllReadyH.nil
          exact AllReadyH.nil
        rintro ⟨xa, xc, xb⟩ w2 ⟨hGn, REn, kA⟩
        simp only at hGn REn kA ⊢
        simp only [List.setIfInBounds_toArray, List.set]
        refine wpAnyH_done (by kernel_rfl) ?_ _
        have hb2 := hbel.trans kA
        go_wp2_with fail
        go_roundw
        case rel => exact ⟨k + 1, xa, xc, by omega, by go_num, hGn, by rw [HZ.out]; exact REn, hb2⟩
        case measure => simp [intOf]; omega
      · obtain rfl : k = 4 := by omega
        have hRG : w.heap.size < G + 1 := by have := HGE.out; omega
        have SL := Lib.hid (show IsSl wr (.slice ae 4 ce) 7 Rp.cs (newReps 4) from hrow.sl seven_len)
        have KK : Below w.heap.size w wr := kW.trans (hbel.mono (by have := HGE.out; omega))
        have aR := carryB hbel (by have := HGE.out; omega) aW
        have cG := cell_of_block hG
        have lG := lt_of_block hG
        have lR := lt_of_block aR
        clear hG aW RE HL HZ hbel kW bW hRG hrow
        have hn4 : ¬ ((4 : Nat) : Int) < 4 := by omega
        go_wp2_with fail
        refine (cloneRp_c ae 4 ce _ wr SL.out (by omega)).mono ?_
        rintro e w3 ⟨a', rfl, r3, k3⟩
        have R4 := Lib.hid ((((r3.setOther (p := ⟨w.heap.size, 0, none⟩) lR (.int .i64 bad)).setOther (p := ⟨w.heap.size, 1, none⟩) lR (.slice a' 4 4)).setOther (p := ⟨w.heap.size, 2, none⟩) lR (.slice none 0 0)).low (Nat.le_of_lt lR))
        have K3 := below_next KK k3
        have aR3 := carryB k3 lR aR
        clear r3 k3 KK aR cG lG SL
        have cR := cell_of_block aR3
        have fR := unfrozen_of_block aR3
        have lR3 := lt_of_block aR3
        go_wp2_with fail
        refine bodyPost_ret (v := .agg #[.int .i64 bad, .slice a' 4 4, .slice none 0 0]) (by simp [results, Try.results19, go_sem, cR]) rfl ?_
        exact ⟨a', rfl, R4.out, (by repeat' (first | with_reducible exact Below.refl _ _ | with_reducible assumption | with_reducible refine Below.alloc ?_ ?_ _ | with_reducible refine Below.drew ?_ | with_reducible refine Below.setCell ?_ ?_ _ | omega | (simp; omega) | (simp; done)))⟩
  | false =>
    go_enter Try.func19, Try.ntmps19
    go_wp2_with fail
    refine (isKeeper_c _ _).mono ?_
    rintro e w1 ⟨rfl, rfl⟩
    rw [h]
    obtain ⟨W, hW, sW, aW, kW⟩ := blocks1 w (.cells #[.int .i64 0, .slice none 0 0, .slice none 0 0] 50)
    rw [← hW]
    clear hW
    have c1 := cell_of_block aW
    have f1 := unfrozen_of_block aW
    have l1 := lt_of_block aW
    go_wp2_with fail
    refine bodyPost_ret (v := .agg #[.int .i64 0, .slice none 0 0, .slice none 0 0]) (by simp [results, Try.results19, go_sem, c1]) rfl ?_
    exact ⟨none, rfl, Row.nil _ _ _ _ _ _, (by repeat' (first | with_reducible exact Below.refl _ _ | with_reducible assumption | with_reducible refine Below.alloc ?_ ?_ _ | with_reducible refine Below.drew ?_ | with_reducible refine Below.setCell ?_ ?_ _ | omega | (simp; omega) | (simp; done)))⟩
end Go.Proofs.Ytgdhieffjflejaa
