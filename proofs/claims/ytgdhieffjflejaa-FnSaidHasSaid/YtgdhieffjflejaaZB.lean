/- Contracts of clone at lists of figures, of numbers, of asks; condition: small sizes. | The walk of FnExactRepNew; no condition. | Keepers as new: seven cells each, whose lists are empty; copies of them; condition: small sizes. | Contracts of WorldNew and of its reference: keepers as new, in a list of their own; no condition. | Events, rows of them; new worlds as their keepers; no condition. | A world behind events (WorldPlay): a world that fits; condition: small sizes. | Drawn votes that were said (l20Real); condition: fewer than 2^40 reads. | A drawn event of a world (l20Event); condition: fewer than 2^40 reads. -/
import Derived.Test.YtgdhieffjflejaaRow
import Derived.Test.YtgdhieffjflejaaArgsA
import Derived.Laws.Cover3
import Derived.Test.YtgdhieffjflejaaReq
import Derived.Test.YtgdhieffjflejaaOpen
import Derived.Test.YtgdhieffjflejaaBlocks
import Derived.LoopTactic
import Derived.Test.YtgdhieffjflejaaRowSet
import Derived.Test.YtgdhieffjflejaaQuiet
import Derived.Test.YtgdhieffjflejaaZM
import Derived.Test.YtgdhieffjflejaaZA
set_option linter.unusedSimpArgs false
set_option linter.unusedVariables false
/-! Clone -/
namespace Go.Proofs.Ytgdhieffjflejaa
open Go.RowKit Go.Joins

end Go.Proofs.Ytgdhieffjflejaa

/-! Rep -/
namespace Go.Proofs.Ytgdhieffjflejaa
open Go.RowKit Go.Joins

set_option maxHeartbeats 1000000 in
theorem l5New_c (n : Int) (w : World) : Calls Try.prog 66 #[.int .i64 n] w fun e w' => e = .returned (.agg #[.int .i64 n, .int .i64 0, .bool true, .int .i64 1, .slice none 0 0, .slice none 0 0, .slice none 0 0]) ∧ Below w.heap.size w w' := by
 go_enter Try.func66, Try.ntmps66
 go_wp2_with fail
 refine bodyPost_ret (v := .agg #[.int .i64 n, .int .i64 0, .bool true, .int .i64 1, .slice none 0 0, .slice none 0 0, .slice none 0 0]) (by simp [results, Try.results66, go_sem]) rfl ?_
 exact ⟨rfl, (by repeat' (first | with_reducible exact Below.refl _ _ | with_reducible assumption | with_reducible refine Below.alloc ?_ ?_ _ | with_reducible refine Below.drew ?_ | with_reducible refine Below.setCell ?_ ?_ _ | omega | (simp; omega) | (simp; done)))⟩
end Go.Proofs.Ytgdhieffjflejaa

/-! RepRow -/
namespace Go.Proofs.Ytgdhieffjflejaa
open Go.RowKit Go.Joins

/-- A keeper without lists. -/
structure Rp where
 me : Int
 view : Int
 live : Bool
 nx : Int
def Rp.cs (z : Rp) : List Value := [.int .i64 z.me, .int .i64 z.view, .bool z.live, .int .i64 z.nx, .slice none 0 0, .slice none 0 0, .slice none 0 0]
theorem rseven_one : ∀ z : Rp, ∀ u ∈ z.cs, u.oneCell' = true := by
 intro z u hu
 simp [Rp.cs] at hu
 rcases hu with rfl | rfl | rfl | rfl | rfl | rfl | rfl <;> rfl
theorem infoRep : (Try.prog.info? 78).map (fun i => (i.zero, i.size, i.bytes)) = some (some (.agg #[.int .i64 0, .int .i64 0, .bool false, .int .i64 0, .slice none 0 0, .slice none 0 0, .slice none 0 0]), 7, 104) := by kernel_rfl
set_option maxRecDepth 100000 in
theorem eltRp : Elt Try.prog 48 78 7 104 Rp.cs := by
 obtain ⟨i, h1, h2, h3, h4⟩ := info_parts infoRep
 exact ⟨Try.underlying48, ⟨i, _, h1, h2, h3, h4, rfl⟩, by decide, fun _ => rfl, rseven_one⟩

end Go.Proofs.Ytgdhieffjflejaa

/-! WorldNew -/
namespace Go.Proofs.Ytgdhieffjflejaa
open Go.RowKit Go.Joins

theorem introFinG {X : Type} {P : Program} {md : Region.Mode} {ops : Array Oper} {Q : Exit → Act → World → Prop} {S : World → Prop} {fuel0 : Nat} {listed0 : Array Bool} {T0 : Array Value} {w0 : World} (fuel : Nat) (listed : Array Bool) (F : X → Array Value → Array Value) (C : X → World → Prop)
  (hfin : ∀ x w', C x w' → wpAnyH P md ops Q S fuel listed ⟨F x T0, []⟩ w')
  (h : (∀ x w' l a, l = listed → a = ⟨F x T0, []⟩ → C x w' → wpAnyH P md ops Q S fuel l a w') → wpAnyH P md ops Q S fuel0 listed0 ⟨T0, []⟩ w0) : wpAnyH P md ops Q S fuel0 listed0 ⟨T0, []⟩ w0 :=
 h fun x w' _ _ e1 e2 c => e1 ▸ e2 ▸ hfin x w' c
/-- The first k keepers, new. -/
def newReps (k : Nat) : List Rp := (List.range k).map (fun i : Nat => (⟨i, 0, true, 1⟩ : Rp))
theorem newReps_succ (k : Nat) : newReps (k + 1) = newReps k ++ [⟨k, 0, true, 1⟩] := by simp [newReps, List.range_succ]
theorem newReps_len (k : Nat) : (newReps k).length = k := by simp [newReps]
/-- The keepers of a new world. -/
def worldReps (n : Int) : List Rp := if inB n 0 3 then newReps 4 else []
def worldBad (n : Int) : Int := if inB n 0 3 then n else 0
def worldN (n : Int) : Nat := if inB n 0 3 then 4 else 0
/-- A new world, its keepers in a list of their own. -/
def WorldGot (n : Int) (w : World) (e : Ending) (w' : World) : Prop :=
 ∃ (a : Option Addr) (c : Nat), e = .returned (.agg #[.int .i64 (worldBad n), .slice a (worldN n) c, .slice none 0 0]) ∧ Row w' w.heap.size 78 a c 7 Rp.cs (worldReps n) ∧ Below w.heap.size w w'
set_option maxRecDepth 100000 in
set_option maxHeartbeats 4000000 in
theorem l6New_c (bad : Int) (w : World) :
  Calls Try.prog 43 #[.int .i64 bad] w fun e w' => ∃ (a : Option Addr) (c : Nat), e = .returned (.agg #[.int .i64 bad, .slice a 4 c, .slice none 0 0]) ∧ Row w' w.heap.size 78 a c 7 Rp.cs (newReps 4) ∧ Below w.heap.size w w' := by
 go_enter Try.func43, Try.ntmps43
 go_wp2_with fail
 obtain ⟨W, hW, sW, aW, bW, kW⟩ := blocks2 w (.cells #[.int .i64 0, .slice none 0 0, .slice none 0 0] 50) (.cells #[.int .i64 bad, .slice none 0 0, .slice none 0 0] 50)
 rw [← hW]
 clear hW
 obtain ⟨G, hGe⟩ : ∃ G, G = w.heap.size + 1 := ⟨_, rfl⟩
 rw [← hGe] at bW ⊢
 have HGE := Lib.hid hGe
 clear hGe
 have lW := lt_of_block bW
 go_loopw [4] (fun i wr => ∃ (k : Nat) (ae : Option Addr) (ce : Nat), k ≤ 4 ∧ i = .int .i64 k ∧ wr.heap[G]? = some (.cells #[.int .i64 bad, .slice ae k ce, .slice none 0 0] 50 (0, 0)) ∧ Row wr (G + 1) 78 ae ce 7 Rp.cs (newReps k) ∧ Below G W wr) (fun i _ => 4 - (intOf i).toNat)
 case atStart => exact ⟨0, none, 0, by omega, rfl, bW, Row.nil _ _ _ _ _ _, Below.refl _ _⟩
 case round =>
  obtain ⟨k, ae, ce, hk, rfl, hG, hrow, hbel⟩ := hrel
  have RE := Lib.hid hrow
  have HL := Lib.hid (newReps_len k)
  have HZ := Lib.hid (newReps_succ k)
  clear hrow
  by_cases hk4 : k < 4
  ·
   have hk1 : (k : Int) < 4 := by omega
   generalize newReps k = zs at RE HL HZ
   go_wp2_with fail
   refine wp_region_held_drew (S := fun _ => True) (by kernel_rfl) trivial (fun hHeld => ?_)
   refine introFinG (X := Option Addr × Nat × Nat) 0 #[true, true, true, true, true, true, true, true] (fun x T => (((((((T).setIfInBounds 11 (.pointer (some ⟨G, 1, none⟩))).setIfInBounds 12 (.slice ae k ce)).setIfInBounds 13 (.int .i64 k)).setIfInBounds 14 (.agg #[.int .i64 k, .int .i64 0, .bool true, .int .i64 1, .slice none 0 0, .slice none 0 0, .slice none 0 0])).setIfInBounds 15 (.slice (some ⟨x.2.2, 0, none⟩) 1 1)).setIfInBounds 16 (.slice x.1 (k + 1) x.2.1)).setIfInBounds 17 (.pointer (some ⟨G, 1, none⟩))) (fun x w' => w'.heap[G]? = some (.cells #[.int .i64 bad, .slice x.1 (k + 1) x.2.1, .slice none 0 0] 50 (0, 0)) ∧ Row w' (G + 1) 78 x.1 x.2.1 7 Rp.cs (zs ++ [⟨k, 0, true, 1⟩]) ∧ Below G wr w') ?_ (fun hfin => ?_)
   rotate_left
   ·
    obtain ⟨wd, hwd, kwd⟩ : ∃ wd, wd = wr.drew ∧ Below wr.heap.size wr wd := ⟨_, rfl, Below.drew (Below.refl _ _)⟩
    rw [← hwd]
    clear hwd
    have RKd := Lib.hid kwd
    have lGG := lt_of_block hG
    have REd := Lib.hid (RE.out.below kwd)
    have hGd := Lib.hid (carryB kwd lGG hG)
    clear kwd
    refine wpAnyH_take (i := 0) (oi := _) (v := ?_) (by (simp only [List.getElem?_toArray]; rfl)) (by kernel_rfl) (by kernel_rfl) (by kernel_rfl) (by exact fun _ _ _ h => h) (Or.inl ⟨by rfl, ?_⟩) (by assumption) ?_
    rotate_left
    ·
     intro wS hSw
     go_simp
     all_goals first | with_reducible rfl | rw [if_neg (by omega)]
    simp only [Act.put, List.setIfInBounds_toArray, List.set]
    refine wpAnyH_take (i := 2) (oi := _) (v := ?_) (by (simp only [List.getElem?_toArray]; rfl)) (by kernel_rfl) (by kernel_rfl) (by kernel_rfl) (by exact fun _ _ _ h => h) (Or.inl ⟨by rfl, ?_⟩) (by assumption) ?_
    rotate_left
    ·
     intro wS hSw
     go_simp
     all_goals first | with_reducible rfl | rw [if_neg (by omega)]
    simp only [Act.put, List.setIfInBounds_toArray, List.set]
    refine wpAnyH_ready (rs := [1, 3]) (by kernel_rfl) (by simp) ?_
    refine AllReadyH.cons (o := _) (by (simp only [List.getElem?_toArray]; rfl)) (fun K hK => ?_) ?_
    ·
     skip
     have cG := cell_of_block hGd.out
     have lG := lt_of_block hGd.out
     go_simp
     refine hK.out _ _ trivial (fun hHeld => ?_)
     clear hK K cG lG
     try simp only [Act.put, List.setIfInBounds_toArray, List.set]
     refine wpAnyH_ready (rs := [3]) (by kernel_rfl) (by simp) ?_
     refine AllReadyH.cons (o := _) (by (simp only [List.getElem?_toArray]; rfl)) (fun K hK => ?_) AllReadyH.nil
     go_simp
     refine (l5New_c k wd).mono ?_
     rintro e wdc ⟨rfl, kw'⟩
     have RKdc := Lib.hid (below_next RKd.out kw')
     have REdc := Lib.hid (REd.out.below kw')
     have hGdc := Lib.hid (carryB kw' (lt_of_block hGd.out) hGd.out)
     clear kw'
     refine hK.out _ _ trivial (fun hHeld => ?_)
     clear hK K
     try simp only [Act.put, List.setIfInBounds_toArray, List.set]
     refine wpAnyH_ready (rs := [4]) (by kernel_rfl) (by simp) ?_
     refine AllReadyH.cons (o := _) (by (simp only [List.getElem?_toArray]; rfl)) (fun K hK => ?_) AllReadyH.nil
     go_simp
     obtain ⟨wdcb, hw', sw', hvdcb, kw'⟩ := blocks1 wdc (.cells #[.int .i64 k, .int .i64 0, .bool true, .int .i64 1, .slice none 0 0, .slice none 0 0, .slice none 0 0] 78)
     rw [← hw']
     clear hw' sw'
     have RVdcb := Lib.hid (show RowsAt wdcb (some ⟨wdc.heap.size, 0, none⟩) 7 Rp.cs [⟨k, 0, true, 1⟩] from rows_of_block (R := Rp.cs) (zs := [⟨k, 0, true, 1⟩]) (fun _ => rfl) hvdcb)
     have RKdcb := Lib.hid (below_next RKdc.out kw')
     have REdcb := Lib.hid (REdc.out.below kw')
     have hGdcb := Lib.hid (carryB kw' (lt_of_block hGdc.out) hGdc.out)
     clear kw'
     refine hK.out _ _ trivial (fun hHeld => ?_)
     clear hK K
     try simp only [Act.put, List.setIfInBounds_toArray, List.set]
     refine wpAnyH_ready (rs := [5]) (by kernel_rfl) (by simp) ?_
     refine AllReadyH.cons (o := _) (by (simp only [List.getElem?_toArray]; rfl)) (fun K hK => ?_) AllReadyH.nil
     refine step_append_elt (by rfl) (.tmp 12) (.tmp 15) (by rfl) (k + 1) eltRp (by rfl) (by rfl) REdcb.out RVdcb.out HL.out rfl rfl (by simp only [maxLen]; omega) (by omega) (by have := lt_of_block hGdcb.out; omega) ?_
     intro xa xc wdcba q6
     have ge : ∀ b, rowBlk ae ce = some b → G + 1 ≤ b := fun b hb => (REdcb.out.blk hb).1
     have hGdcba := Lib.hid ((q6.grown.block G (lt_of_block hGdcb.out) (fun e => by have := ge _ e.symm; omega)).trans hGdcb.out)
     have REdcba := Lib.hid q6.row
     have RKdcba := Lib.hid (show Below G wr wdcba from (RKdcb.out.mono (Nat.le_of_lt lGG)).trans (q6.below (by have := lt_of_block hGdcb.out; omega) (fun b hb => by have := ge b hb; omega)))
     clear q6 ge
     refine hK.out _ _ trivial (fun hHeld => ?_)
     clear hK K
     try simp only [Act.put, List.setIfInBounds_toArray, List.set]
     refine wpAnyH_take (i := 6) (oi := _) (v := ?_) (by (simp only [List.getElem?_toArray]; rfl)) (by kernel_rfl) (by kernel_rfl) (by kernel_rfl) (by exact fun _ _ _ h => h) (Or.inl ⟨by rfl, ?_⟩) (by assumption) ?_
     rotate_left
     ·
      intro wS hSw
      go_simp
      all_goals first | with_reducible rfl | rw [if_neg (by omega)]
     simp only [Act.put, List.setIfInBounds_toArray, List.set]
     refine wpAnyH_ready (rs := [7]) (by kernel_rfl) (by simp) ?_
     refine AllReadyH.cons (o := _) (by (simp only [List.getElem?_toArray]; rfl)) (fun K hK => ?_) AllReadyH.nil
     have cG := cell_of_block hGdcba.out
     have fG := unfrozen_of_block hGdcba.out
     have lG := lt_of_block hGdcba.out
     go_simp
     have hGdcbas := Lib.hid (block_setCell (i := 1) hGdcba.out (.slice xa (k + 1) xc))
     have REdcbas := Lib.hid (REdcba.out.setOther (p := ⟨G, 1, none⟩) (Nat.lt_succ_self G) (.slice xa (k + 1) xc))
     have RKdcbas := Lib.hid (RKdcba.out.setCell (p := ⟨G, 1, none⟩) (Nat.le_refl _) (.slice xa (k + 1) xc))
     clear cG fG lG
     refine hK.out _ _ trivial (fun hHeld => ?_)
     clear hK K
     try simp only [Act.put, List.setIfInBounds_toArray, List.set]
     refine hfin ⟨xa, xc, wdc.heap.size⟩ _ _ _ (by kernel_rfl) ?_ ⟨hGdcbas.out, REdcbas.out, RKdcbas.out⟩
     simp only [List.setIfInBounds_toArray, List.set]
    refine AllReadyH.cons (o := _) (by (simp only [List.getElem?_toArray]; rfl)) (fun K hK => ?_) ?_
    ·
     skip
     go_simp
     refine (l5New_c k wd).mono ?_
     rintro e wdc ⟨rfl, kw'⟩
     have RKdc := Lib.hid (below_next RKd.out kw')
     have REdc := Lib.hid (REd.out.below kw')
     have hGdc := Lib.hid (carryB kw' (lt_of_block hGd.out) hGd.out)
     clear kw'
     refine hK.out _ _ trivial (fun hHeld => ?_)
     clear hK K
     try simp only [Act.put, List.setIfInBounds_toArray, List.set]
     refine wpAnyH_ready (rs := [1, 4]) (by kernel_rfl) (by simp) ?_
     refine AllReadyH.cons (o := _) (by (simp only [List.getElem?_toArray]; rfl)) (fun K hK => ?_) ?_
     ·
      skip
      have cG := cell_of_block hGdc.out
      have lG := lt_of_block hGdc.out
      go_simp
      refine hK.out _ _ trivial (fun hHeld => ?_)
      clear hK K cG lG
      try simp only [Act.put, List.setIfInBounds_toArray, List.set]
      refine wpAnyH_ready (rs := [4]) (by kernel_rfl) (by simp) ?_
      refine AllReadyH.cons (o := _) (by (simp only [List.getElem?_toArray]; rfl)) (fun K hK => ?_) AllReadyH.nil
      go_simp
      obtain ⟨wdcb, hw', sw', hvdcb, kw'⟩ := blocks1 wdc (.cells #[.int .i64 k, .int .i64 0, .bool true, .int .i64 1, .slice none 0 0, .slice none 0 0, .slice none 0 0] 78)
      rw [← hw']
      clear hw' sw'
      have RVdcb := Lib.hid (show RowsAt wdcb (some ⟨wdc.heap.size, 0, none⟩) 7 Rp.cs [⟨k, 0, true, 1⟩] from rows_of_block (R := Rp.cs) (zs := [⟨k, 0, true, 1⟩]) (fun _ => rfl) hvdcb)
      have RKdcb := Lib.hid (below_next RKdc.out kw')
      have REdcb := Lib.hid (REdc.out.below kw')
      have hGdcb := Lib.hid (carryB kw' (lt_of_block hGdc.out) hGdc.out)
      clear kw'
      refine hK.out _ _ trivial (fun hHeld => ?_)
      clear hK K
      try simp only [Act.put, List.setIfInBounds_toArray, List.set]
      refine wpAnyH_ready (rs := [5]) (by kernel_rfl) (by simp) ?_
      refine AllReadyH.cons (o := _) (by (simp only [List.getElem?_toArray]; rfl)) (fun K hK => ?_) AllReadyH.nil
      refine step_append_elt (by rfl) (.tmp 12) (.tmp 15) (by rfl) (k + 1) eltRp (by rfl) (by rfl) REdcb.out RVdcb.out HL.out rfl rfl (by simp only [maxLen]; omega) (by omega) (by have := lt_of_block hGdcb.out; omega) ?_
      intro xa xc wdcba q6
      have ge : ∀ b, rowBlk ae ce = some b → G + 1 ≤ b := fun b hb => (REdcb.out.blk hb).1
      have hGdcba := Lib.hid ((q6.grown.block G (lt_of_block hGdcb.out) (fun e => by have := ge _ e.symm; omega)).trans hGdcb.out)
      have REdcba := Lib.hid q6.row
      have RKdcba := Lib.hid (show Below G wr wdcba from (RKdcb.out.mono (Nat.le_of_lt lGG)).trans (q6.below (by have := lt_of_block hGdcb.out; omega) (fun b hb => by have := ge b hb; omega)))
      clear q6 ge
      refine hK.out _ _ trivial (fun hHeld => ?_)
      clear hK K
      try simp only [Act.put, List.setIfInBounds_toArray, List.set]
      refine wpAnyH_take (i := 6) (oi := _) (v := ?_) (by (simp only [List.getElem?_toArray]; rfl)) (by kernel_rfl) (by kernel_rfl) (by kernel_rfl) (by exact fun _ _ _ h => h) (Or.inl ⟨by rfl, ?_⟩) (by assumption) ?_
      rotate_left
      ·
       intro wS hSw
       go_simp
       all_goals first | with_reducible rfl | rw [if_neg (by omega)]
      simp only [Act.put, List.setIfInBounds_toArray, List.set]
      refine wpAnyH_ready (rs := [7]) (by kernel_rfl) (by simp) ?_
      refine AllReadyH.cons (o := _) (by (simp only [List.getElem?_toArray]; rfl)) (fun K hK => ?_) AllReadyH.nil
      have cG := cell_of_block hGdcba.out
      have fG := unfrozen_of_block hGdcba.out
      have lG := lt_of_block hGdcba.out
      go_simp
      have hGdcbas := Lib.hid (block_setCell (i := 1) hGdcba.out (.slice xa (k + 1) xc))
      have REdcbas := Lib.hid (REdcba.out.setOther (p := ⟨G, 1, none⟩) (Nat.lt_succ_self G) (.slice xa (k + 1) xc))
      have RKdcbas := Lib.hid (RKdcba.out.setCell (p := ⟨G, 1, none⟩) (Nat.le_refl _) (.slice xa (k + 1) xc))
      clear cG fG lG
      refine hK.out _ _ trivial (fun hHeld => ?_)
      clear hK K
      try simp only [Act.put, List.setIfInBounds_toArray, List.set]
      refine hfin ⟨xa, xc, wdc.heap.size⟩ _ _ _ (by kernel_rfl) ?_ ⟨hGdcbas.out, REdcbas.out, RKdcbas.out⟩
      simp only [List.setIfInBounds_toArray, List.set]
     refine AllReadyH.cons (o := _) (by (simp only [List.getElem?_toArray]; rfl)) (fun K hK => ?_) ?_
     ·
      skip
      go_simp
      obtain ⟨wdcb, hw', sw', hvdcb, kw'⟩ := blocks1 wdc (.cells #[.int .i64 k, .int .i64 0, .bool true, .int .i64 1, .slice none 0 0, .slice none 0 0, .slice none 0 0] 78)
      rw [← hw']
      clear hw' sw'
      have RVdcb := Lib.hid (show RowsAt wdcb (some ⟨wdc.heap.size, 0, none⟩) 7 Rp.cs [⟨k, 0, true, 1⟩] from rows_of_block (R := Rp.cs) (zs := [⟨k, 0, true, 1⟩]) (fun _ => rfl) hvdcb)
      have RKdcb := Lib.hid (below_next RKdc.out kw')
      have REdcb := Lib.hid (REdc.out.below kw')
      have hGdcb := Lib.hid (carryB kw' (lt_of_block hGdc.out) hGdc.out)
      clear kw'
      refine hK.out _ _ trivial (fun hHeld => ?_)
      clear hK K
      try simp only [Act.put, List.setIfInBounds_toArray, List.set]
      refine wpAnyH_ready (rs := [1]) (by kernel_rfl) (by simp) ?_
      refine AllReadyH.cons (o := _) (by (simp only [List.getElem?_toArray]; rfl)) (fun K hK => ?_) AllReadyH.nil
      have cG := cell_of_block hGdcb.out
      have lG := lt_of_block hGdcb.out
      go_simp
      refine hK.out _ _ trivial (fun hHeld => ?_)
      clear hK K cG lG
      try simp only [Act.put, List.setIfInBounds_toArray, List.set]
      refine wpAnyH_ready (rs := [5]) (by kernel_rfl) (by simp) ?_
      refine AllReadyH.cons (o := _) (by (simp only [List.getElem?_toArray]; rfl)) (fun K hK => ?_) AllReadyH.nil
      refine step_append_elt (by rfl) (.tmp 12) (.tmp 15) (by rfl) (k + 1) eltRp (by rfl) (by rfl) REdcb.out RVdcb.out HL.out rfl rfl (by simp only [maxLen]; omega) (by omega) (by have := lt_of_block hGdcb.out; omega) ?_
      intro xa xc wdcba q6
      have ge : ∀ b, rowBlk ae ce = some b → G + 1 ≤ b := fun b hb => (REdcb.out.blk hb).1
      have hGdcba := Lib.hid ((q6.grown.block G (lt_of_block hGdcb.out) (fun e => by have := ge _ e.symm; omega)).trans hGdcb.out)
      have REdcba := Lib.hid q6.row
      have RKdcba := Lib.hid (show Below G wr wdcba from (RKdcb.out.mono (Nat.le_of_lt lGG)).trans (q6.below (by have := lt_of_block hGdcb.out; omega) (fun b hb => by have := ge b hb; omega)))
      clear q6 ge
      refine hK.out _ _ trivial (fun hHeld => ?_)
      clear hK K
      try simp only [Act.put, List.setIfInBounds_toArray, List.set]
      refine wpAnyH_take (i := 6) (oi := _) (v := ?_) (by (simp only [List.getElem?_toArray]; rfl)) (by kernel_rfl) (by kernel_rfl) (by kernel_rfl) (by exact fun _ _ _ h => h) (Or.inl ⟨by rfl, ?_⟩) (by assumption) ?_
      rotate_left
      ·
       intro wS hSw
       go_simp
       all_goals first | with_reducible rfl | rw [if_neg (by omega)]
      simp only [Act.put, List.setIfInBounds_toArray, List.set]
      refine wpAnyH_ready (rs := [7]) (by kernel_rfl) (by simp) ?_
      refine AllReadyH.cons (o := _) (by (simp only [List.getElem?_toArray]; rfl)) (fun K hK => ?_) AllReadyH.nil
      have cG := cell_of_block hGdcba.out
      have fG := unfrozen_of_block hGdcba.out
      have lG := lt_of_block hGdcba.out
      go_simp
      have hGdcbas := Lib.hid (block_setCell (i := 1) hGdcba.out (.slice xa (k + 1) xc))
      have REdcbas := Lib.hid (REdcba.out.setOther (p := ⟨G, 1, none⟩) (Nat.lt_succ_self G) (.slice xa (k + 1) xc))
      have RKdcbas := Lib.hid (RKdcba.out.setCell (p := ⟨G, 1, none⟩) (Nat.le_refl _) (.slice xa (k + 1) xc))
      clear cG fG lG
      refine hK.out _ _ trivial (fun hHeld => ?_)
      clear hK K
      try simp only [Act.put, List.setIfInBounds_toArray, List.set]
      refine hfin ⟨xa, xc, wdc.heap.size⟩ _ _ _ (by kernel_rfl) ?_ ⟨hGdcbas.out, REdcbas.out, RKdcbas.out⟩
      simp only [List.setIfInBounds_toArray, List.set]
     exact AllReadyH.nil
    exact AllReadyH.nil
   rintro ⟨xa, xc, xb⟩ w2 ⟨hGn, REn, kA⟩
   simp only at hGn REn kA ⊢
   simp only [List.setIfInBounds_toArray, List.set]
   refine wpAnyH_done (by kernel_rfl) ?_ _
   have hb2 := hbel.trans kA
   go_wp2_with fail
   go_roundw
   case rel => exact ⟨k + 1, xa, xc, by omega, by go_num, hGn, by rw [HZ.out]; exact REn, hb2⟩
   case measure => simp [intOf]; omega
  ·
   obtain rfl : k = 4 := by omega
   have hRG : w.heap.size < G + 1 := by have := HGE.out; omega
   have R4 := Lib.hid ((((RE.out.setOther (p := ⟨w.heap.size, 0, none⟩) hRG (.int .i64 bad)).setOther (p := ⟨w.heap.size, 1, none⟩) hRG (.slice ae 4 ce)).setOther (p := ⟨w.heap.size, 2, none⟩) hRG (.slice none 0 0)).low (Nat.le_of_lt hRG))
   have KK : Below w.heap.size w wr := kW.trans (hbel.mono (by have := HGE.out; omega))
   have aR := carryB hbel (by have := HGE.out; omega) aW
   have cG := cell_of_block hG
   have lG := lt_of_block hG
   have cR := cell_of_block aR
   have fR := unfrozen_of_block aR
   have lR := lt_of_block aR
   clear hG aW RE HL HZ hbel kW bW hRG
   have hn4 : ¬ ((4 : Nat) : Int) < 4 := by omega
   go_wp2_with fail
   refine bodyPost_ret (v := .agg #[.int .i64 bad, .slice ae 4 ce, .slice none 0 0]) (by simp [results, Try.results43, go_sem, cR]) rfl ?_
   exact ⟨ae, ce, rfl, R4.out, (by repeat' (first | with_reducible exact Below.refl _ _ | with_reducible assumption | with_reducible refine Below.alloc ?_ ?_ _ | with_reducible refine Below.drew ?_ | with_reducible refine Below.setCell ?_ ?_ _ | omega | (simp; omega) | (simp; done)))⟩

set_option maxRecDepth 100000 in
set_option maxHeartbeats 1000000 in
theorem sWorldNew_c (bad : Int) (w : World) : Calls Try.prog 18 #[.int .i64 bad] w (WorldGot bad w) := by
 unfold WorldGot worldReps worldBad worldN
 cases h : inB bad 0 3 with
 | true =>
  go_enter Try.func18, Try.ntmps18
  go_wp2_with fail
  refine (l1In_c _ _ _ _).mono ?_
  rintro e w1 ⟨rfl, rfl⟩
  rw [h]
  obtain ⟨W, hW, sW, aW, kW⟩ := blocks1 w (.cells #[.int .i64 0, .slice none 0 0, .slice none 0 0] 50)
  rw [← hW]
  clear hW
  go_wp2_with fail
  refine (l6New_c bad _).mono ?_
  rintro e w1 ⟨a, c, rfl, r1, k1⟩
  have hRG : w.heap.size < W.heap.size := lt_of_block aW
  have R4 := Lib.hid ((((r1.setOther (p := ⟨w.heap.size, 0, none⟩) hRG (.int .i64 bad)).setOther (p := ⟨w.heap.size, 1, none⟩) hRG (.slice a 4 c)).setOther (p := ⟨w.heap.size, 2, none⟩) hRG (.slice none 0 0)).low (Nat.le_of_lt hRG))
  have aW1 := carryB k1 (by omega) aW
  have K1 := below_next kW k1
  clear r1 k1 kW aW sW
  have c1 := cell_of_block aW1
  have f1 := unfrozen_of_block aW1
  have l1 := lt_of_block aW1
  go_wp2_with fail
  refine bodyPost_ret (v := .agg #[.int .i64 bad, .slice a 4 c, .slice none 0 0]) (by simp [results, Try.results18, go_sem, c1]) rfl ?_
  exact ⟨a, c, rfl, R4.out, (by repeat' (first | with_reducible exact Below.refl _ _ | with_reducible assumption | with_reducible refine Below.alloc ?_ ?_ _ | with_reducible refine Below.drew ?_ | with_reducible refine Below.setCell ?_ ?_ _ | omega | (simp; omega) | (simp; done)))⟩
 | false =>
  go_enter Try.func18, Try.ntmps18
  go_wp2_with fail
  refine (l1In_c _ _ _ _).mono ?_
  rintro e w1 ⟨rfl, rfl⟩
  rw [h]
  obtain ⟨W, hW, sW, aW, kW⟩ := blocks1 w (.cells #[.int .i64 0, .slice none 0 0, .slice none 0 0] 50)
  rw [← hW]
  clear hW
  have c1 := cell_of_block aW
  have f1 := unfrozen_of_block aW
  have l1 := lt_of_block aW
  go_wp2_with fail
  refine bodyPost_ret (v := .agg #[.int .i64 0, .slice none 0 0, .slice none 0 0]) (by simp [results, Try.results18, go_sem, c1]) rfl ?_
  exact ⟨none, 0, rfl, Row.nil _ _ _ _ _ _, (by repeat' (first | with_reducible exact Below.refl _ _ | with_reducible assumption | with_reducible refine Below.alloc ?_ ?_ _ | with_reducible refine Below.drew ?_ | with_reducible refine Below.setCell ?_ ?_ _ | omega | (simp; omega) | (simp; done)))⟩

end Go.Proofs.Ytgdhieffjflejaa

/-! Ev -/
namespace Go.Proofs.Ytgdhieffjflejaa
open Go.RowKit Go.Joins

theorem stored3 (w : World) (g : Nat) (o0 o1 o2 v0 v1 v2 : Value) {t : TypeId} (h : w.heap[g]? = some (.cells #[o0, o1, o2] t (0, 0))) :
  ∃ W, W = (((w.setCell ⟨g, 0, none⟩ v0).setCell ⟨g, 1, none⟩ v1).setCell ⟨g, 2, none⟩ v2) ∧ W.heap.size = w.heap.size ∧
   W.heap[g]? = some (.cells #[v0, v1, v2] t (0, 0)) ∧ (∀ b, b ≠ g → W.heap[b]? = w.heap[b]?) ∧ Below g w W := by
 obtain ⟨W0, h0, s0, a0, n0, k0⟩ := stored1 w g 0 v0 h
 obtain ⟨W1, h1, s1, a1, n1, k1⟩ := stored1 W0 g 1 v1 a0
 obtain ⟨W2, h2, s2, a2, n2, k2⟩ := stored1 W1 g 2 v2 a1
 exact ⟨W2, by rw [h2, h1, h0], by omega, by simpa using a2, fun b hb => (n2 b hb).trans ((n1 b hb).trans (n0 b hb)), k0.trans (k1.trans k2)⟩
theorem stored14 (w : World) (g : Nat) (o0 o1 o2 o3 o4 o5 o6 o7 o8 o9 o10 o11 o12 o13 v0 v1 v2 v3 v4 v5 v6 v7 v8 v9 v10 v11 v12 v13 : Value) {t : TypeId} (h : w.heap[g]? = some (.cells #[o0, o1, o2, o3, o4, o5, o6, o7, o8, o9, o10, o11, o12, o13] t (0, 0))) :
  ∃ W, W = ((((((((((((((w.setCell ⟨g, 0, none⟩ v0).setCell ⟨g, 1, none⟩ v1).setCell ⟨g, 2, none⟩ v2).setCell ⟨g, 3, none⟩ v3).setCell ⟨g, 4, none⟩ v4).setCell ⟨g, 5, none⟩ v5).setCell ⟨g, 6, none⟩ v6).setCell ⟨g, 7, none⟩ v7).setCell ⟨g, 8, none⟩ v8).setCell ⟨g, 9, none⟩ v9).setCell ⟨g, 10, none⟩ v10).setCell ⟨g, 11, none⟩ v11).setCell ⟨g, 12, none⟩ v12).setCell ⟨g, 13, none⟩ v13) ∧ W.heap.size = w.heap.size ∧
   W.heap[g]? = some (.cells #[v0, v1, v2, v3, v4, v5, v6, v7, v8, v9, v10, v11, v12, v13] t (0, 0)) ∧ (∀ b, b ≠ g → W.heap[b]? = w.heap[b]?) ∧ Below g w W := by
 obtain ⟨W0, h0, s0, a0, n0, k0⟩ := stored1 w g 0 v0 h
 obtain ⟨W1, h1, s1, a1, n1, k1⟩ := stored1 W0 g 1 v1 a0
 obtain ⟨W2, h2, s2, a2, n2, k2⟩ := stored1 W1 g 2 v2 a1
 obtain ⟨W3, h3, s3, a3, n3, k3⟩ := stored1 W2 g 3 v3 a2
 obtain ⟨W4, h4, s4, a4, n4, k4⟩ := stored1 W3 g 4 v4 a3
 obtain ⟨W5, h5, s5, a5, n5, k5⟩ := stored1 W4 g 5 v5 a4
 obtain ⟨W6, h6, s6, a6, n6, k6⟩ := stored1 W5 g 6 v6 a5
 obtain ⟨W7, h7, s7, a7, n7, k7⟩ := stored1 W6 g 7 v7 a6
 obtain ⟨W8, h8, s8, a8, n8, k8⟩ := stored1 W7 g 8 v8 a7
 obtain ⟨W9, h9, s9, a9, n9, k9⟩ := stored1 W8 g 9 v9 a8
 obtain ⟨W10, h10, s10, a10, n10, k10⟩ := stored1 W9 g 10 v10 a9
 obtain ⟨W11, h11, s11, a11, n11, k11⟩ := stored1 W10 g 11 v11 a10
 obtain ⟨W12, h12, s12, a12, n12, k12⟩ := stored1 W11 g 12 v12 a11
 obtain ⟨W13, h13, s13, a13, n13, k13⟩ := stored1 W12 g 13 v13 a12
 exact ⟨W13, by rw [h13, h12, h11, h10, h9, h8, h7, h6, h5, h4, h3, h2, h1, h0], by omega, by simpa using a13, fun b hb => (n13 b hb).trans ((n12 b hb).trans ((n11 b hb).trans ((n10 b hb).trans ((n9 b hb).trans ((n8 b hb).trans ((n7 b hb).trans ((n6 b hb).trans ((n5 b hb).trans ((n4 b hb).trans ((n3 b hb).trans ((n2 b hb).trans ((n1 b hb).trans (n0 b hb))))))))))))), k0.trans (k1.trans (k2.trans (k3.trans (k4.trans (k5.trans (k6.trans (k7.trans (k8.trans (k9.trans (k10.trans (k11.trans (k12.trans k13))))))))))))⟩
/-- An event: its kind, a place, a keeper, a letter. -/
structure Ev where
 k : Int
 pt : Int
 tw : Int
 m : Mg
def Ev.cs (e : Ev) : List Value := [.int .i64 e.k, .int .i64 e.pt, .int .i64 e.tw, .int .i64 e.m.k, .int .i64 e.m.f, .int .i64 e.m.v, .int .i64 e.m.s, .int .i64 e.m.r.c, .int .i64 e.m.r.n, .int .i64 e.m.r.o, .int .i64 e.m.r.x, .int .i64 e.m.r.y, e.m.vc, e.m.vv]
theorem ev_len (e : Ev) : e.cs.length = 14 := rfl
theorem ev_one {w : World} {e : Ev} (h : e.m.ok w) : ∀ u ∈ e.cs, u.oneCell' = true := by
 intro u hu
 obtain ⟨⟨a, c, e1, -⟩, ⟨a', c', e2, -⟩, -⟩ := h
 simp [Ev.cs, e1, e2] at hu
 rcases hu with rfl | rfl | rfl | rfl | rfl | rfl | rfl | rfl | rfl | rfl | rfl | rfl | rfl | rfl <;> rfl
set_option maxRecDepth 100000 in
theorem elmEv : Elm Try.prog 95 112 14 144 Ev.cs := by
 obtain ⟨i, h1, h2, h3, h4⟩ := info_parts (P := Try.prog) (e := 112) (z := .agg #[.int .i64 0, .int .i64 0, .int .i64 0, .int .i64 0, .int .i64 0, .int .i64 0, .int .i64 0, .int .i64 0, .int .i64 0, .int .i64 0, .int .i64 0, .int .i64 0, .slice none 0 0, .slice none 0 0]) (size := 14) (bytes := 144) (by kernel_rfl)
 exact ⟨Try.underlying95, ⟨i, _, h1, h2, h3, h4, rfl⟩, by decide, fun _ => rfl⟩
theorem ev_at {w : World} {a : Option Addr} {zs : List Ev} (h : RowsAt w a 14 Ev.cs zs) (k : Nat) (hk : k < zs.length) :
  ∃ b off, a = some ⟨b, off, none⟩ ∧ b < w.heap.size ∧ ∀ wr, Below w.heap.size w wr → wr.cell? ⟨b, off + k * 14, none⟩ = some (.int .i64 zs[k].k) ∧ wr.cell? ⟨b, off + k * 14 + 1, none⟩ = some (.int .i64 zs[k].pt) ∧ wr.cell? ⟨b, off + k * 14 + 2, none⟩ = some (.int .i64 zs[k].tw) ∧ wr.cell? ⟨b, off + k * 14 + 3, none⟩ = some (.int .i64 zs[k].m.k) ∧ wr.cell? ⟨b, off + k * 14 + 4, none⟩ = some (.int .i64 zs[k].m.f) ∧ wr.cell? ⟨b, off + k * 14 + 5, none⟩ = some (.int .i64 zs[k].m.v) ∧ wr.cell? ⟨b, off + k * 14 + 6, none⟩ = some (.int .i64 zs[k].m.s) ∧ wr.cell? ⟨b, off + k * 14 + 7, none⟩ = some (.int .i64 zs[k].m.r.c) ∧ wr.cell? ⟨b, off + k * 14 + 8, none⟩ = some (.int .i64 zs[k].m.r.n) ∧ wr.cell? ⟨b, off + k * 14 + 9, none⟩ = some (.int .i64 zs[k].m.r.o) ∧ wr.cell? ⟨b, off + k * 14 + 10, none⟩ = some (.int .i64 zs[k].m.r.x) ∧ wr.cell? ⟨b, off + k * 14 + 11, none⟩ = some (.int .i64 zs[k].m.r.y) ∧ wr.cell? ⟨b, off + k * 14 + 12, none⟩ = some zs[k].m.vc ∧ wr.cell? ⟨b, off + k * 14 + 13, none⟩ = some zs[k].m.vv := by
 obtain ⟨b, off, rfl, hb, hc⟩ := h k hk
 refine ⟨b, off, rfl, hb, fun wr hbel => ?_⟩
 have g : ∀ j, j < 14 → wr.cell? ⟨b, off + k * 14 + j, none⟩ = zs[k].cs[j]? := fun j hj => (hbel.cell (p := ⟨b, _, none⟩) hb).trans (hc j hj)
 exact ⟨g 0 (by decide), g 1 (by decide), g 2 (by decide), g 3 (by decide), g 4 (by decide), g 5 (by decide), g 6 (by decide), g 7 (by decide), g 8 (by decide), g 9 (by decide), g 10 (by decide), g 11 (by decide), g 12 (by decide), g 13 (by decide)⟩
/-- Events that lie in a world. -/
def IsEvs (w : World) (v : Value) (es : List Ev) : Prop := IsSl w v 14 Ev.cs es ∧ ∀ e ∈ es, e.m.ok w
def EvsFit (es : List Ev) : Prop := ∀ e ∈ es, e.m.fit

/-! New worlds. -/
def rk0 (z : Rp) : Rk := ⟨z.me, z.view, z.live, z.nx, none, 0, [], none, 0, [], none, 0, []⟩
theorem Row.mapW {α β : Type} {w : World} {B : Nat} {e : TypeId} {a : Option Addr} {cap k : Nat} {R : α → List Value} {R' : β → List Value} {zs : List α} (f : α → β) (hf : ∀ z, R' (f z) = R z) (h : Row w B e a cap k R zs) : Row w B e a cap k R' (zs.map f) := by
 refine ⟨by simpa using h.len, h.max, fun hc => ?_⟩
 obtain ⟨g, cur, h1, h2, h3, h4, h5⟩ := h.own hc
 refine ⟨g, cur, h1, h2, h3, h4, fun j hj => ?_⟩
 rw [List.length_map] at hj
 rw [h5 j hj]
 have : flat R' (zs.map f) = flat R zs := by
  unfold flat
  rw [List.flatMap_map]
  congr 2
  funext z
  exact hf z
 rw [this]
/-- A new world. -/
def newWd (bad : Int) (a : Option Addr) (c : Nat) : Wd := ⟨bad, a, c, (newReps 4).map rk0, none, 0, []⟩
theorem newWd_fit (bad : Int) (a : Option Addr) (c : Nat) : (newWd bad a c).fit 0 0 := by
 refine ⟨rfl, fun r hr => ?_, by show 0 ≤ 100; omega, fun m hm => nomatch hm⟩
 obtain ⟨z, hz, rfl⟩ := List.mem_map.1 hr
 unfold newReps at hz
 obtain ⟨i, hi, rfl⟩ := List.mem_map.1 hz
 have hi4 := List.mem_range.1 hi
 exact ⟨by show (0 : Int) ≤ (i : Int); omega, by show (i : Int) ≤ 3; omega, Nat.le_refl _, Nat.zero_le _, (fun m hm => nomatch hm), Nat.le_refl _⟩
theorem newWd_ok {w : World} {B : Nat} (bad : Int) {a : Option Addr} {c : Nat} (h : Row w B 78 a c 7 Rp.cs (newReps 4)) : Rob (Lo B) (newWd bad a c).ok w := by
 intro V hV
 refine ⟨(h.mapW (R' := Rk.cs) rk0 (fun _ => rfl)).rob rk_len V hV, fun r hr => ?_, isMs_nil _ _ _ (Nat.zero_le _)⟩
 obtain ⟨z, hz, rfl⟩ := List.mem_map.1 hr
 exact ⟨isSl_nil _ _ _ _ (Nat.zero_le _) _, isMs_nil _ _ _ (Nat.zero_le _), isSl_nil _ _ _ _ (Nat.zero_le _) _⟩
theorem newWd_cells (bad : Int) (a : Option Addr) (c : Nat) : (.agg #[.int .i64 bad, .slice a 4 c, .slice none 0 0] : Value) = .agg #[.int .i64 (newWd bad a c).bad, .slice (newWd bad a c).ra (newWd bad a c).rp.length (newWd bad a c).rc, .slice (newWd bad a c).sa (newWd bad a c).sd.length (newWd bad a c).sc] := rfl
end Go.Proofs.Ytgdhieffjflejaa

/-! L6E -/
namespace Go.Proofs.Ytgdhieffjflejaa
open Go.RowKit Go.Joins

set_option maxRecDepth 100000 in
set_option maxHeartbeats 16000000 in
theorem WorldPlay_c (bad : Int) (vb : Value) (es : List Ev) (w : World) (hb : inB bad 0 3 = true) (h : IsEvs w vb es) (hf : EvsFit es) :
  Calls Try.prog 62 #[.int .i64 bad, vb] w fun e w' => ∃ u : Wd, e = .returned (.agg #[.int .i64 u.bad, .slice u.ra u.rp.length u.rc, .slice u.sa u.sd.length u.sc]) ∧ u.ok w' ∧ u.fit 450 54000 ∧ Below w.heap.size w w' := by
 have HE := Lib.hid h.2
 have HEF := Lib.hid hf
 have h2 := h.1
 obtain ⟨la, lc, rfl, -⟩ := h2
 obtain ⟨-, hlc, hmx, hrt⟩ := h.1.bounds
 have HT := Lib.hid hrt
 unfold maxLen at hmx
 clear h hf hrt
 go_enter Try.func62, Try.ntmps62
 go_upto_region 1 with fail
 obtain ⟨W, hW_, sW, z, kW⟩ := blocks1 w (.cells #[.int .i64 0, .slice none 0 0, .slice none 0 0] 50)
 rw [← hW_]
 clear hW_
 have hsW : w.heap.size < W.heap.size := by omega
 clear sW
 go_wp2_with fail
 have CW := sWorldNew_c bad W
 have e1 : worldBad bad = bad := by unfold worldBad; rw [if_pos hb]
 have e2 : worldN bad = 4 := by unfold worldN; rw [if_pos hb]
 have e3 : worldReps bad = newReps 4 := by unfold worldReps; rw [if_pos hb]
 unfold WorldGot at CW
 rw [e1, e2, e3] at CW
 clear e1 e2 e3 hb
 refine CW.mono ?_
 rintro e V ⟨a, c, rfl, hrow, k1_⟩
 clear CW
 go_upto_region 2 with fail
 obtain ⟨V1, hV_, sV, v0, k2_⟩ := blocks1 V (.cells #[.int .i64 bad, .slice a 4 c, .slice none 0 0] 50)
 rw [← hV_]
 clear hV_
 obtain ⟨u0, eu⟩ : ∃ u0, u0 = newWd bad a c := ⟨_, rfl⟩
 have v : V1.heap[V.heap.size]? = some (.cells #[.int .i64 u0.bad, .slice u0.ra u0.rp.length u0.rc, .slice u0.sa u0.sd.length u0.sc] 50 (0, 0)) := by subst eu; exact v0
 have hVW : W.heap.size ≤ V.heap.size := k1_.size
 obtain ⟨X, hXg, hXz, hXl, hXu⟩ : ∃ X : Nat → Prop, X V.heap.size ∧ X w.heap.size ∧ (∀ b, X b → b ≤ V.heap.size) ∧ Rob X u0.ok V1 :=
  ⟨fun b => b = V.heap.size ∨ b = w.heap.size, .inl rfl, .inr rfl, fun b hb => by rcases hb with hb | hb <;> omega, ((eu ▸ newWd_ok bad hrow : Rob (Lo W.heap.size) u0.ok V).box k2_ V1.heap.size).weak fun b hb => by
   rcases hb with hb | hb
   ·
    exact .inr ⟨by omega, by omega⟩
   ·
    exact .inl (by show b < W.heap.size; omega)⟩
 have U0 := Lib.hid hXu
 have F0 := Lib.hid (show u0.fit 0 0 by subst eu; exact newWd_fit _ _ _)
 replace z := carryB k2_ (by omega) (carryB k1_ (lt_of_block z) z)
 have K0 := below_next (below_next kW k1_) k2_
 have hg1 : V.heap.size < V1.heap.size := by omega
 clear k1_ k2_ hrow eu v0 hXu kW sV
 generalize V.heap.size = g at *
 have hgw : w.heap.size < g := by omega
 go_wp2_with fail
 go_loopw [6] (fun i wr => ∃ (k : Nat) (u : Wd), k ≤ 90 ∧ k ≤ es.length ∧ i = .int .i64 k ∧ wr.heap[w.heap.size]? = some (.cells #[.int .i64 0, .slice none 0 0, .slice none 0 0] 50 (0, 0)) ∧ wr.heap[g]? = some (.cells #[.int .i64 u.bad, .slice u.ra u.rp.length u.rc, .slice u.sa u.sd.length u.sc] 50 (0, 0)) ∧ Rob X u.ok wr ∧ u.fit (5 * k) (600 * k) ∧ g < wr.heap.size ∧ Below w.heap.size w wr) (fun i _ => 90 - (intOf i).toNat)
 case atStart => exact ⟨0, u0, Nat.zero_le _, Nat.zero_le _, rfl, z, v, U0.out, F0.out, hg1, K0⟩
 case round =>
  clear z v U0 F0 hg1 K0
  obtain ⟨k, u, hk9, hkl, rfl, z, v, hu, hfu, hg1, K⟩ := hrel
  have U := Lib.hid hu
  have FU := Lib.hid hfu
  clear hu hfu
  have h4i : 0 < u.rp.length := by have := FU.out.four; omega
  by_cases hlt : k < es.length
  ·
   have hk1 : decide ((k : Int) < (es.length : Int)) = true := by simp; omega
   by_cases h90 : k < 90
   ·
    have hk2 : decide ((k : Int) < 90) = true := by simp; omega
    have hk0 : (0 : Int) ≤ (k : Int) := by omega
    have hk3 : (k : Int) < (es.length : Int) := by omega
    obtain ⟨b1, o1, ea, hl1, hd0⟩ := ev_at HT.out k hlt
    obtain ⟨d0, d1, d2, d3, d4, d5, d6, d7, d8, d9, d10, d11, d12, d13⟩ := hd0 wr K
    have EO := Lib.hid (Mg.ok.below (HE.out es[k] (List.getElem_mem hlt)) K)
    have EF := Lib.hid (HEF.out es[k] (List.getElem_mem hlt))
    clear hd0
    have hb1 : b1 < wr.heap.size := Nat.lt_of_lt_of_le hl1 K.size
    generalize es[k] = ev at *
    obtain ⟨ax, qx, bx, dx, ex, fx⟩ := Mg.ok.slices EO.out
    rw [ex] at d12
    rw [fx] at d13
    have EX := Lib.hid (And.intro ex fx)
    clear ex fx
    subst ea
    have hBW := Nat.le_refl wr.heap.size
    have hXw : ∀ b, X b → b < wr.heap.size := fun b hb => Nat.lt_of_le_of_lt (hXl b hb) hg1
    have cz := cell_of_block z
    have fz := unfrozen_of_block z
    have lz := lt_of_block z
    have cv := cell_of_block v
    have fv := unfrozen_of_block v
    have lv := lt_of_block v
    go_upto_region 5 with fail
    refine wp_region_L (fun w' => ((∀ b o, b < wr.heap.size → (w').cell? ⟨b, o, none⟩ = (wr).cell? ⟨b, o, none⟩) ∧ Below (wr.heap.size) (wr) (w'))) [] (by kernel_rfl) ?_
    obtain ⟨wr_0, hw_, kw_⟩ : ∃ wd, wd = wr.drew ∧ Below wr.heap.size wr wd := ⟨_, rfl, Below.drew (Below.refl _ _)⟩
    rw [← hw_]
    clear hw_
    have hS := KeptB.of (kw_.mono hBW)
    clear kw_
    refine wpAnyL_take (i := 0) (oi := _) (v := ?_) (by (simp only [List.getElem?_toArray]; rfl)) (by kernel_rfl) (by kernel_rfl) (by kernel_rfl) (by kernel_rfl) (by exact fun _ _ _ h => h) (Or.inl ⟨by rfl, ?_⟩) (by assumption) ?_
    rotate_left
    ·
     intro wS hSw
     go_simp
     all_goals first | with_reducible rfl | rw [if_neg (by omega)]
    simp only [Act.put, List.setIfInBounds_toArray, List.set]
    refine wpAnyL_take (i := 1) (oi := _) (v := ?_) (by (simp only [List.getElem?_toArray]; rfl)) (by kernel_rfl) (by kernel_rfl) (by kernel_rfl) (by kernel_rfl) (by exact fun _ _ _ h => h) (Or.inl ⟨by rfl, ?_⟩) (by assumption) ?_
    rotate_left
    ·
     intro wS hSw
     go_simp
     all_goals first | with_reducible rfl | rw [if_neg (by omega)]
    simp only [Act.put, List.setIfInBounds_toArray, List.set]
    refine wpAnyL_take (i := 2) (oi := _) (v := ?_) (by (simp only [List.getElem?_toArray]; rfl)) (by kernel_rfl) (by kernel_rfl) (by kernel_rfl) (by kernel_rfl) (by exact fun _ _ _ h => h) (Or.inl ⟨by rfl, ?_⟩) (by assumption) ?_
    rotate_left
    ·
     intro wS hSw
     go_simp
     all_goals first | with_reducible rfl | rw [if_neg (by omega)]
    simp only [Act.put, List.setIfInBounds_toArray, List.set]
    refine wpAnyL_take (i := 3) (oi := _) (v := ?_) (by (simp only [List.getElem?_toArray]; rfl)) (by kernel_rfl) (by kernel_rfl) (by kernel_rfl) (by kernel_rfl) (by exact fun _ _ _ h => h) (Or.inl ⟨by rfl, ?_⟩) (by assumption) ?_
    rotate_left
    ·
     intro wS hSw
     go_simp
     all_goals first | with_reducible rfl | rw [if_neg (by omega)]
    simp only [Act.put, List.setIfInBounds_toArray, List.set]
    refine wpAnyL_take (i := 4) (oi := _) (v := ?_) (by (simp only [List.getElem?_toArray]; rfl)) (by kernel_rfl) (by kernel_rfl) (by kernel_rfl) (by kernel_rfl) (by exact fun _ _ _ h => h) (Or.inl ⟨by rfl, ?_⟩) (by assumption) ?_
    rotate_left
    ·
     intro wS hSw
     go_simp
     all_goals first | with_reducible rfl | rw [if_neg (by omega)]
    simp only [Act.put, List.setIfInBounds_toArray, List.set]
    refine wpAnyL_ready (rs := [5, 9]) (by kernel_rfl) (by simp) ?_
    refine AllReadyL.cons (o := _) (by (simp only [List.getElem?_toArray]; rfl)) (fun K hK => ?_) ?_
    ·
     skip
     go_simp
     refine (l6Do_c (Bx X wr.heap.size wr_0.heap.size) (5 * k) (600 * k) u ev.k ev.pt ev.tw ev.m ax bx qx dx wr_0 (U.out.box hS.2 _) FU.out EX.out.1 EX.out.2 (Mg.ok.below EO.out hS.2) EF.out (Bx.lt hXw hS.2.size) (by omega) (by omega)).mono ?_
     rintro e wr_1 ⟨u2, qe, rfl, hu2, hf2, kw_⟩
     have hRK : Below wr.heap.size wr wr_1 := hS.2.trans (kw_.mono (Nat.le_trans hBW hS.2.size))
     clear hS
     have hS := KeptB.of hRK
     clear hRK
     clear kw_
     have U2 := Lib.hid hu2
     have F2 := Lib.hid hf2
     clear hu2 hf2
     refine hK.out _ _ (fun _ => hS) ?_
     clear hK K
     try simp only [Act.put, List.setIfInBounds_toArray, List.set]
     refine wpAnyL_take (i := 6) (oi := _) (v := ?_) (by (simp only [List.getElem?_toArray]; rfl)) (by kernel_rfl) (by kernel_rfl) (by kernel_rfl) (by kernel_rfl) (by exact fun _ _ _ h => h) (Or.inl ⟨by rfl, ?_⟩) (by assumption) ?_
     rotate_left
     ·
      intro wS hSw
      go_simp
      all_goals first | with_reducible rfl | rw [if_neg (by omega)]
     simp only [Act.put, List.setIfInBounds_toArray, List.set]
     refine wpAnyL_take (i := 7) (oi := _) (v := ?_) (by (simp only [List.getElem?_toArray]; rfl)) (by kernel_rfl) (by kernel_rfl) (by kernel_rfl) (by kernel_rfl) (by exact fun _ _ _ h => h) (Or.inl ⟨by rfl, ?_⟩) (by assumption) ?_
     rotate_left
     ·
      intro wS hSw
      go_simp
      all_goals first | with_reducible rfl | rw [if_neg (by omega)]
     simp only [Act.put, List.setIfInBounds_toArray, List.set]
     refine wpAnyL_take (i := 8) (oi := _) (v := ?_) (by (simp only [List.getElem?_toArray]; rfl)) (by kernel_rfl) (by kernel_rfl) (by kernel_rfl) (by kernel_rfl) (by exact fun _ _ _ h => h) (Or.inl ⟨by rfl, ?_⟩) (by assumption) ?_
     rotate_left
     ·
      intro wS hSw
      go_simp
      all_goals first | with_reducible rfl | rw [if_neg (by omega)]
     simp only [Act.put, List.setIfInBounds_toArray, List.set]
     refine wpAnyL_ready (rs := [9]) (by kernel_rfl) (by simp) ?_
     refine AllReadyL.cons (o := _) (by (simp only [List.getElem?_toArray]; rfl)) (fun K hK => ?_) AllReadyL.nil
     go_simp
     obtain ⟨wr_2, hw_, sw_, hv_, kw_⟩ := blocks1 wr_1 (.cells #[.int .i64 0, .slice none 0 0, .slice none 0 0] 50)
     rw [← hw_]
     clear hw_
     have hgl_ : wr_1.heap.size < wr_2.heap.size := by omega
     have hg0_ : wr.heap.size ≤ wr_1.heap.size := Nat.le_trans hBW hS.2.size
     have hgX := Lib.hid (show BlkIs wr_1.heap.size #[.int .i64 0, .slice none 0 0, .slice none 0 0] 50 wr_2 from hv_)
     clear hv_ sw_
     replace U2 := Lib.hid (U2.out.box kw_ wr_2.heap.size)
     have hRK : Below wr.heap.size wr wr_2 := hS.2.trans (kw_.mono (Nat.le_trans hBW hS.2.size))
     clear hS
     have hS := KeptB.of hRK
     clear hRK
     clear kw_
     refine hK.out _ _ (fun _ => hS) ?_
     clear hK K
     try simp only [Act.put, List.setIfInBounds_toArray, List.set]
     refine wpAnyL_ready (rs := [10]) (by kernel_rfl) (by simp) ?_
     refine AllReadyL.cons (o := _) (by (simp only [List.getElem?_toArray]; rfl)) (fun K hK => ?_) AllReadyL.nil
     have zq_ := hgX.out
     unfold BlkIs at zq_
     have cq_ := cell_of_block zq_
     have fq_ := unfrozen_of_block zq_
     have lq_ := lt_of_block zq_
     go_simp
     obtain ⟨Q1, hV_, sV_, x9, oV_, kV_⟩ := stored3 wr_2 (wr_1.heap.size) _ _ _ (.int .i64 u2.bad) (.slice u2.ra u2.rp.length u2.rc) (.slice u2.sa u2.sd.length u2.sc) zq_
     rw [← hV_]
     clear hV_
     replace U2 := Lib.hid (Rob.weak (X' := X) (U2.out.stored sV_ oV_ (by first | exact .inr ⟨hg0_, hgl_⟩ | exact .inr ⟨Nat.le_refl _, hgl_⟩)) (by first | exact fun b hb => .inl hb | exact fun b hb => .inl (.inl hb)))
     have KQ := Lib.hid (hS.2.trans (kV_.mono hg0_))
     replace hS := KeptB.of KQ.out
     clear zq_ cq_ fq_ lq_ kV_ oV_ sV_ hgX
     refine hK.out _ _ (fun _ => hS) ?_
     clear hK K
     try simp only [Act.put, List.setIfInBounds_toArray, List.set]
     refine wpAnyL_take (i := 11) (oi := _) (v := ?_) (by (simp only [List.getElem?_toArray]; rfl)) (by kernel_rfl) (by kernel_rfl) (by kernel_rfl) (by kernel_rfl) (by exact fun _ _ _ h => h) (Or.inl ⟨by rfl, ?_⟩) (by assumption) ?_
     rotate_left
     ·
      intro wS hSw
      go_simp
      all_goals first | with_reducible rfl | rw [if_neg (by omega)]
     simp only [Act.put, List.setIfInBounds_toArray, List.set]
     refine wpAnyL_done (by kernel_rfl) ?_ _
     clear hS hgl_ d0 d1 d2 d3 d4 d5 d6 d7 d8 d9 d10 d11 d12 d13
     clear cz fz lz cv fv lv
     have lv_ := lt_of_block v
     have hgQ : g < Q1.heap.size := Nat.lt_of_lt_of_le hg1 KQ.out.size
     replace z := carryB KQ.out (lt_of_block z) z
     replace v := carryB KQ.out lv_ v
     replace K := below_next K KQ.out
     have hne1 : ¬ (wr_1.heap.size = g) := by omega
     have hne2 : ¬ (g = wr_1.heap.size) := by omega
     clear KQ lv_ U
     have cv := cell_of_block v
     have fv := unfrozen_of_block v
     have lv := lt_of_block v
     have cx9 := cell_of_block x9
     have fx9 := unfrozen_of_block x9
     have lx9 := lt_of_block x9
     go_upto_region 4 with fail
     obtain ⟨Q2, hV_, sV, xV, oV, kV⟩ := stored3 Q1 g _ _ _ (.int .i64 u2.bad) (.slice u2.ra u2.rp.length u2.rc) (.slice u2.sa u2.sd.length u2.sc) v
     rw [← hV_]
     clear hV_
     clear cv fv lv cx9 fx9 lx9
     clear v
     replace z := (oV _ (by omega)).trans z
     replace U2 := Lib.hid (U2.out.stored sV oV hXg)
     replace K := K.trans (kV.mono (by omega))
     have hgQ2 : g < Q2.heap.size := by omega
     have F3 := Lib.hid (F2.out.more (T' := 5 * (k + 1)) (D' := 600 * (k + 1)) (by omega) (by omega))
     have X_ := Lib.hid xV
     have Z_ := Lib.hid z
     have K_ := Lib.hid K
     clear kV oV sV x9 z xV K
     go_wp2_with fail
     go_roundw
     case rel => exact ⟨k + 1, u2, by omega, by omega, by go_num, Z_.out, X_.out, U2.out, F3.out, hgQ2, K_.out⟩
     case measure => simp [intOf]; omega
    refine AllReadyL.cons (o := _) (by (simp only [List.getElem?_toArray]; rfl)) (fun K hK => ?_) ?_
    ·
     skip
     go_simp
     obtain ⟨wr_1, hw_, sw_, hv_, kw_⟩ := blocks1 wr_0 (.cells #[.int .i64 0, .slice none 0 0, .slice none 0 0] 50)
     rw [← hw_]
     clear hw_
     have hgl_ : wr_0.heap.size < wr_1.heap.size := by omega
     have hg0_ : wr.heap.size ≤ wr_0.heap.size := Nat.le_trans hBW hS.2.size
     have hgX := Lib.hid (show BlkIs wr_0.heap.size #[.int .i64 0, .slice none 0 0, .slice none 0 0] 50 wr_1 from hv_)
     clear hv_ sw_
     have hRK : Below wr.heap.size wr wr_1 := hS.2.trans (kw_.mono (Nat.le_trans hBW hS.2.size))
     clear hS
     have hS := KeptB.of hRK
     clear hRK
     clear kw_
     refine hK.out _ _ (fun _ => hS) ?_
     clear hK K
     try simp only [Act.put, List.setIfInBounds_toArray, List.set]
     refine wpAnyL_ready (rs := [5]) (by kernel_rfl) (by simp) ?_
     refine AllReadyL.cons (o := _) (by (simp only [List.getElem?_toArray]; rfl)) (fun K hK => ?_) AllReadyL.nil
     have hgl_ := hgX.out.lt
     go_simp
     refine (l6Do_c (Bx X wr.heap.size wr_1.heap.size) (5 * k) (600 * k) u ev.k ev.pt ev.tw ev.m ax bx qx dx wr_1 (U.out.box hS.2 _) FU.out EX.out.1 EX.out.2 (Mg.ok.below EO.out hS.2) EF.out (Bx.lt hXw hS.2.size) (by omega) (by omega)).mono ?_
     rintro e wr_2 ⟨u2, qe, rfl, hu2, hf2, kw_⟩
     have hRK : Below wr.heap.size wr wr_2 := hS.2.trans (kw_.mono (Nat.le_trans hBW hS.2.size))
     clear hS
     have hS := KeptB.of hRK
     clear hRK
     replace hgX := Lib.hid (hgX.out.below kw_)
     clear kw_
     have U2 := Lib.hid hu2
     have F2 := Lib.hid hf2
     clear hu2 hf2
     refine hK.out _ _ (fun _ => hS) ?_
     clear hK K
     try simp only [Act.put, List.setIfInBounds_toArray, List.set]
     refine wpAnyL_take (i := 6) (oi := _) (v := ?_) (by (simp only [List.getElem?_toArray]; rfl)) (by kernel_rfl) (by kernel_rfl) (by kernel_rfl) (by kernel_rfl) (by exact fun _ _ _ h => h) (Or.inl ⟨by rfl, ?_⟩) (by assumption) ?_
     rotate_left
     ·
      intro wS hSw
      go_simp
      all_goals first | with_reducible rfl | rw [if_neg (by omega)]
     simp only [Act.put, List.setIfInBounds_toArray, List.set]
     refine wpAnyL_take (i := 7) (oi := _) (v := ?_) (by (simp only [List.getElem?_toArray]; rfl)) (by kernel_rfl) (by kernel_rfl) (by kernel_rfl) (by kernel_rfl) (by exact fun _ _ _ h => h) (Or.inl ⟨by rfl, ?_⟩) (by assumption) ?_
     rotate_left
     ·
      intro wS hSw
      go_simp
      all_goals first | with_reducible rfl | rw [if_neg (by omega)]
     simp only [Act.put, List.setIfInBounds_toArray, List.set]
     refine wpAnyL_take (i := 8) (oi := _) (v := ?_) (by (simp only [List.getElem?_toArray]; rfl)) (by kernel_rfl) (by kernel_rfl) (by kernel_rfl) (by kernel_rfl) (by exact fun _ _ _ h => h) (Or.inl ⟨by rfl, ?_⟩) (by assumption) ?_
     rotate_left
     ·
      intro wS hSw
      go_simp
      all_goals first | with_reducible rfl | rw [if_neg (by omega)]
     simp only [Act.put, List.setIfInBounds_toArray, List.set]
     refine wpAnyL_ready (rs := [10]) (by kernel_rfl) (by simp) ?_
     refine AllReadyL.cons (o := _) (by (simp only [List.getElem?_toArray]; rfl)) (fun K hK => ?_) AllReadyL.nil
     have zq_ := hgX.out
     unfold BlkIs at zq_
     have cq_ := cell_of_block zq_
     have fq_ := unfrozen_of_block zq_
     have lq_ := lt_of_block zq_
     go_simp
     obtain ⟨Q1, hV_, sV_, x9, oV_, kV_⟩ := stored3 wr_2 (wr_0.heap.size) _ _ _ (.int .i64 u2.bad) (.slice u2.ra u2.rp.length u2.rc) (.slice u2.sa u2.sd.length u2.sc) zq_
     rw [← hV_]
     clear hV_
     replace U2 := Lib.hid (Rob.weak (X' := X) (U2.out.stored sV_ oV_ (by first | exact .inr ⟨hg0_, hgl_⟩ | exact .inr ⟨Nat.le_refl _, hgl_⟩)) (by first | exact fun b hb => .inl hb | exact fun b hb => .inl (.inl hb)))
     have KQ := Lib.hid (hS.2.trans (kV_.mono hg0_))
     replace hS := KeptB.of KQ.out
     clear zq_ cq_ fq_ lq_ kV_ oV_ sV_ hgX
     refine hK.out _ _ (fun _ => hS) ?_
     clear hK K
     try simp only [Act.put, List.setIfInBounds_toArray, List.set]
     refine wpAnyL_take (i := 11) (oi := _) (v := ?_) (by (simp only [List.getElem?_toArray]; rfl)) (by kernel_rfl) (by kernel_rfl) (by kernel_rfl) (by kernel_rfl) (by exact fun _ _ _ h => h) (Or.inl ⟨by rfl, ?_⟩) (by assumption) ?_
     rotate_left
     ·
      intro wS hSw
      go_simp
      all_goals first | with_reducible rfl | rw [if_neg (by omega)]
     simp only [Act.put, List.setIfInBounds_toArray, List.set]
     refine wpAnyL_done (by kernel_rfl) ?_ _
     clear hS hgl_ d0 d1 d2 d3 d4 d5 d6 d7 d8 d9 d10 d11 d12 d13
     clear cz fz lz cv fv lv
     have lv_ := lt_of_block v
     have hgQ : g < Q1.heap.size := Nat.lt_of_lt_of_le hg1 KQ.out.size
     replace z := carryB KQ.out (lt_of_block z) z
     replace v := carryB KQ.out lv_ v
     replace K := below_next K KQ.out
     have hne1 : ¬ (wr_0.heap.size = g) := by omega
     have hne2 : ¬ (g = wr_0.heap.size) := by omega
     clear KQ lv_ U
     have cv := cell_of_block v
     have fv := unfrozen_of_block v
     have lv := lt_of_block v
     have cx9 := cell_of_block x9
     have fx9 := unfrozen_of_block x9
     have lx9 := lt_of_block x9
     go_upto_region 4 with fail
     obtain ⟨Q2, hV_, sV, xV, oV, kV⟩ := stored3 Q1 g _ _ _ (.int .i64 u2.bad) (.slice u2.ra u2.rp.length u2.rc) (.slice u2.sa u2.sd.length u2.sc) v
     rw [← hV_]
     clear hV_
     clear cv fv lv cx9 fx9 lx9
     clear v
     replace z := (oV _ (by omega)).trans z
     replace U2 := Lib.hid (U2.out.stored sV oV hXg)
     replace K := K.trans (kV.mono (by omega))
     have hgQ2 : g < Q2.heap.size := by omega
     have F3 := Lib.hid (F2.out.more (T' := 5 * (k + 1)) (D' := 600 * (k + 1)) (by omega) (by omega))
     have X_ := Lib.hid xV
     have Z_ := Lib.hid z
     have K_ := Lib.hid K
     clear kV oV sV x9 z xV K
     go_wp2_with fail
     go_roundw
     case rel => exact ⟨k + 1, u2, by omega, by omega, by go_num, Z_.out, X_.out, U2.out, F3.out, hgQ2, K_.out⟩
     case measure => simp [intOf]; omega
    exact AllReadyL.nil
   ·
    -- CUT d
    have hk2 : decide ((k : Int) < 90) = false := by simp; omega
    have hk90 : k = 90 := by omega
    have HK := Lib.hid hk90
    clear hk90
    have cz := cell_of_block z
    have fz := unfrozen_of_block z
    have lz := lt_of_block z
    have cv := cell_of_block v
    have fv := unfrozen_of_block v
    have lv := lt_of_block v
    go_wp2_with fail
    refine bodyPost_ret (v := .agg #[.int .i64 u.bad, .slice u.ra u.rp.length u.rc, .slice u.sa u.sd.length u.sc]) (by simp [results, Try.results62, go_sem, cz]) rfl ?_
    refine ⟨u, rfl, Rob.out (X := X) ?_, FU.out.more (by omega) (by omega), (by repeat' (first | with_reducible exact Below.refl _ _ | with_reducible assumption | with_reducible refine Below.alloc ?_ ?_ _ | with_reducible refine Below.drew ?_ | with_reducible refine Below.setCell ?_ ?_ _ | omega | (simp; omega) | (simp; done)))⟩
    have hR := U.out
    repeat' (first | with_reducible exact hR | refine Rob.setX ?_ hXz _)
  ·
   -- CUT e
   have hk1 : decide ((k : Int) < (es.length : Int)) = false := by simp; omega
   have cz := cell_of_block z
   have fz := unfrozen_of_block z
   have lz := lt_of_block z
   have cv := cell_of_block v
   have fv := unfrozen_of_block v
   have lv := lt_of_block v
   go_wp2_with fail
   refine bodyPost_ret (v := .agg #[.int .i64 u.bad, .slice u.ra u.rp.length u.rc, .slice u.sa u.sd.length u.sc]) (by simp [results, Try.results62, go_sem, cz]) rfl ?_
   refine ⟨u, rfl, Rob.out (X := X) ?_, FU.out.more (by omega) (by omega), (by repeat' (first | with_reducible exact Below.refl _ _ | with_reducible assumption | with_reducible refine Below.alloc ?_ ?_ _ | with_reducible refine Below.drew ?_ | with_reducible refine Below.setCell ?_ ?_ _ | omega | (simp; omega) | (simp; done)))⟩
   have hR := U.out
   repeat' (first | with_reducible exact hR | refine Rob.setX ?_ hXz _)
end Go.Proofs.Ytgdhieffjflejaa

/-! DrawR -/
namespace Go.Proofs.Ytgdhieffjflejaa
open Go.RowKit Go.Joins

/-- At most three votes, whose claims may be read whatever happens to the blocks of X. -/
def RealDrawn (X : Nat → Prop) (w : World) (g P : Nat) (e : Ending) (w' : World) : Prop :=
 ∃ (a : Option Addr) (c : Nat) (vs : List Vx), e = .returned (.slice a vs.length c) ∧ vs.length ≤ 3 ∧ VsFit vs ∧ Rob X (fun V => IsVs V (.slice a vs.length c) vs) w' ∧ Rdr w' g (P + 440) ∧ w.grownBy w' (some g)
/-- What held at the start, whatever happened to X, holds where a few more blocks may turn, all new or of X. -/
theorem Rob.later2 {X Y : Nat → Prop} {F : World → Prop} {w w' : World} {g : Nat} (h : Rob X F w) (k : w.grownBy w' (some g)) (hg : X g) (hY : ∀ b, b < w.heap.size → Y b → X b) : Rob Y F w' := fun V hV =>
 h V ⟨Nat.le_trans k.size hV.1, fun b hb hx => (hV.2 b (Nat.lt_of_lt_of_le hb k.size) (fun hy => hx (hY b hb hy))).trans (k.block b hb (fun e => hx (by injection e with e; rw [e]; exact hg)))⟩
theorem IsMs.claims {w : World} {v : Value} {ms : List Mg} (h : IsMs w v ms) : ∀ m ∈ ms, IsSl w m.vc 7 Cl.cs m.cl := fun m hm => (h.2 m hm).1

set_option maxRecDepth 100000 in
set_option maxHeartbeats 16000000 in
theorem l20Real_c (X : Nat → Prop) (T D : Nat) (u : Wd) (view : Int) (w : World) (g P : Nat) (hr : Rdr w g P) (hP : P ≤ 1099511000000) (h : Rob X u.ok w) (hf : u.fit T D) (hg : X g) (hX : ∀ b, X b → b < w.heap.size) :
  Calls Try.prog 88 #[.pointer (some ⟨g, 0, none⟩), .agg #[.int .i64 u.bad, .slice u.ra u.rp.length u.rc, .slice u.sa u.sd.length u.sc], .int .i64 view] w (RealDrawn X w g P) := by
 have hlt0 := hr.lt
 have HO := Lib.hid h
 have HF := Lib.hid hf.ms
 have hsd : u.sd.length ≤ 100 := hf.sd
 obtain ⟨-, hlc, hmx, hrt⟩ := h.out.2.2.1.bounds
 unfold maxLen at hmx
 clear h hf hrt
 go_enter Try.func88, Try.ntmps88
 go_upto_region 2 with fail
 obtain ⟨W, hW_, sW, x, n0, kW⟩ := blocks2 w (.cells #[.int .i64 u.bad, .slice u.ra u.rp.length u.rc, .slice u.sa u.sd.length u.sc] 50) (.cells #[] 65)
 rw [← hW_]
 clear hW_ n0
 have r0 := hr.below (kW.mono (by omega))
 have K0 : w.grownBy W (some g) := grown_of_below kW _
 have hs0 : w.heap.size + 2 ≤ W.heap.size := by omega
 clear kW sW hr
 go_wp2_with fail
 go_loopw [7, 8] (fun st i wr => ∃ (j : Nat) (a : Option Addr) (cc : Nat) (vs : List Vx), j ≤ 4 ∧ i = .int .i64 j ∧ st = .slice a vs.length cc ∧ vs.length ≤ 3 ∧ VsFit vs ∧ Row wr (w.heap.size + 1) 65 a cc 2 Vx.cs vs ∧ Rob (OwX X a cc) (fun V => ∀ z ∈ vs, IsSl V z.sl 7 Cl.cs z.cl) wr ∧ wr.heap[w.heap.size]? = some (.cells #[.int .i64 u.bad, .slice u.ra u.rp.length u.rc, .slice u.sa u.sd.length u.sc] 50 (0, 0)) ∧ Rdr wr g (P + 110 * j) ∧ w.grownBy wr (some g) ∧ w.heap.size + 2 ≤ wr.heap.size) (fun _ i _ => 4 - (intOf i).toNat)
 case atStart => exact ⟨0, some ⟨w.heap.size + 1, 0, none⟩, 0, [], by omega, rfl, rfl, Nat.zero_le _, ⟨Nat.zero_le _, fun z hz => nomatch hz⟩, Row.nil _ _ _ _ _ _, (fun V hV z hz => nomatch hz), x, r0, K0, hs0⟩
 case round =>
  clear K0 r0 hs0 x
  obtain ⟨j, a, cc, vs, hj, rfl, rfl, hv3, hvf, hrow, hcl, x, hrd, K, hs⟩ := hrel
  have RW := Lib.hid hrow
  have CLS := Lib.hid hcl
  have VF := Lib.hid hvf
  clear hrow hcl hvf
  have hj0 : (0 : Int) ≤ (j : Int) := by omega
  by_cases hj4 : j < 4
  ·
   have hj1 : (j : Int) < 4 := by omega
   go_wp2_with fail
   go_loopw [7, 9] (fun st i wr => ∃ (k : Nat) (a : Option Addr) (cc : Nat) (vs : List Vx), k ≤ u.sd.length ∧ i = .int .i64 k ∧ st = .slice a vs.length cc ∧ vs.length ≤ 3 ∧ VsFit vs ∧ Row wr (w.heap.size + 1) 65 a cc 2 Vx.cs vs ∧ Rob (OwX X a cc) (fun V => ∀ z ∈ vs, IsSl V z.sl 7 Cl.cs z.cl) wr ∧ wr.heap[w.heap.size]? = some (.cells #[.int .i64 u.bad, .slice u.ra u.rp.length u.rc, .slice u.sa u.sd.length u.sc] 50 (0, 0)) ∧ Rdr wr g (P + 110 * j + k) ∧ w.grownBy wr (some g) ∧ w.heap.size + 2 ≤ wr.heap.size) (fun _ i _ => u.sd.length - (intOf i).toNat)
   case atStart => exact ⟨0, a, cc, vs, Nat.zero_le _, rfl, rfl, hv3, VF.out, RW.out, CLS.out, x, hrd, K, hs⟩
   case round =>
    clear x K hs hrd RW CLS VF hv3
    obtain ⟨k, a, cc, vs, hk, rfl, rfl, hv3, hvf, hrow, hcl, x, hrd, K, hs⟩ := hrel
    have RW := Lib.hid hrow
    have CLS := Lib.hid hcl
    have VF := Lib.hid hvf
    clear hrow hcl hvf
    by_cases hlt : k < u.sd.length
    ·
     have hk1 : (k : Int) < (u.sd.length : Int) := by omega
     have hk0 : (0 : Int) ≤ (k : Int) := by omega
     have UR := Lib.hid (HO.out.next (Agree.grown K hg))
     obtain ⟨b1, o1, ea, hl1, hd0⟩ := mg_at UR.out.out.2.2.1.bounds.2.2.2 k hlt
     obtain ⟨d0, d1, d2, d3, d4, d5, d6, d7, d8, d9, d10⟩ := hd0 wr (Below.refl _ _)
     have UC := Lib.hid (HO.out.imp (G := fun V => IsSl V u.sd[k].vc 7 Cl.cs u.sd[k].cl) (fun V h => h.2.2.claims _ (List.getElem_mem hlt)))
     have SX := UR.out.out.2.2.2 u.sd[k] (List.getElem_mem hlt)
     have UF := Lib.hid (HF.out u.sd[k] (List.getElem_mem hlt))
     clear hd0
     generalize u.sd[k] = m at *
     obtain ⟨ax, qx, bx, dx, ex, fx⟩ := Mg.ok.slices SX
     rw [ex] at d9 UC
     rw [fx] at d10
     clear ex fx SX
     have EA := Lib.hid ea
     rw [ea] at x
     clear ea
     have hrb : ∀ g', rowBlk a cc = some g' → w.heap.size + 1 ≤ g' ∧ g' < wr.heap.size := fun g' hg' => RW.out.blk hg'
     have cx := cell_of_block x
     have fx := unfrozen_of_block x
     have lx := lt_of_block x
     go_upto_region 9 with fail
     obtain ⟨V, hV, sV, v, kV⟩ := blocks1 wr (.cells #[.int .i64 m.k, .int .i64 m.f, .int .i64 m.v, .int .i64 m.s, .int .i64 m.r.c, .int .i64 m.r.n, .int .i64 m.r.o, .int .i64 m.r.x, .int .i64 m.r.y, .slice ax m.cl.length qx, .slice bx m.vs.length dx] 34)
     rw [← hV]
     clear hV d0 d1 d2 d3 d4 d5 d6 d7 d8 d9 d10
     clear cx fx lx
     rw [← EA.out] at x
     clear EA hl1 UR
     replace x := carryB kV (lt_of_block x) x
     replace RW := Lib.hid (RW.out.below kV)
     replace CLS := Lib.hid (CLS.out.below kV)
     have hgl : g < wr.heap.size := hrd.lt
     replace hrd := hrd.below (kV.mono (by omega))
     replace K := grown_trans K (grown_of_below kV _)
     replace hs := Nat.le_trans hs kV.size
     clear kV sV
     have hneg : ¬ (wr.heap.size = g) := by omega
     obtain ⟨p1, hp1⟩ : ∃ q, (m.k == 5) = q := ⟨_, rfl⟩
     obtain ⟨p2, hp2⟩ : ∃ q, (m.f == (j : Int)) = q := ⟨_, rfl⟩
     obtain ⟨p3, hp3⟩ : ∃ q, (m.v == view) = q := ⟨_, rfl⟩
     have cx := cell_of_block x
     have fx := unfrozen_of_block x
     have lx := lt_of_block x
     have cv := cell_of_block v
     have fv := unfrozen_of_block v
     have lv := lt_of_block v
     cases p1 with
     | false =>
      have X_ := Lib.hid x
      have hsE := hs
      have KE := Lib.hid K
      have RD := Lib.hid (hrd.mono (Nat.le_succ _))
      clear x K hs hrd
      go_wp2_with fail
      go_roundw
      case rel => exact ⟨k + 1, a, cc, vs, by omega, by go_num, rfl, hv3, VF.out, RW.out, CLS.out, X_.out, RD.out, KE.out, hsE⟩
      case measure => simp [intOf]; omega
     | true =>
      cases p2 with
      | false =>
       have X_ := Lib.hid x
       have hsE := hs
       have KE := Lib.hid K
       have RD := Lib.hid (hrd.mono (Nat.le_succ _))
       clear x K hs hrd
       go_wp2_with fail
       go_roundw
       case rel => exact ⟨k + 1, a, cc, vs, by omega, by go_num, rfl, hv3, VF.out, RW.out, CLS.out, X_.out, RD.out, KE.out, hsE⟩
       case measure => simp [intOf]; omega
      | true =>
       cases p3 with
       | false =>
        have X_ := Lib.hid x
        have hsE := hs
        have KE := Lib.hid K
        have RD := Lib.hid (hrd.mono (Nat.le_succ _))
        clear x K hs hrd
        go_wp2_with fail
        go_roundw
        case rel => exact ⟨k + 1, a, cc, vs, by omega, by go_num, rfl, hv3, VF.out, RW.out, CLS.out, X_.out, RD.out, KE.out, hsE⟩
        case measure => simp [intOf]; omega
       | true =>
        by_cases h3 : vs.length < 3
        ·
         rcases List.eq_nil_or_concat vs with hnil | ⟨vs', zl, hcon⟩
         ·
          skip
          subst hnil
          go_wp2_with fail
          refine (pick_c _ g (P + 110 * j + k) 4 hrd (by omega) (by omega)).mono ?_
          rintro e w1 ⟨v1, rfl, -, -, -, r1, k1⟩
          clear cx fx lx cv fv lv
          have hne0 : ¬ (w.heap.size = g) := by omega
          replace x := carry k1 hne0 x
          replace v := carry k1 hneg v
          replace CLS := Lib.hid (CLS.out.next (Agree.grown k1 (.inl hg)))
          replace RW := Lib.hid (RW.out.kept k1 (fun g' hg' e => by have := (hrb g' hg').1; injection e; omega))
          have K1 := grown_trans K k1
          have hs1 := Nat.le_trans hs k1.size
          clear k1 K hs hrd
          have cx := cell_of_block x
          have fx := unfrozen_of_block x
          have lx := lt_of_block x
          have cv := cell_of_block v
          have fv := unfrozen_of_block v
          have lv := lt_of_block v
          obtain ⟨q, hq⟩ : ∃ q, decide ((0 : Int) < v1) = q := ⟨_, rfl⟩
          cases q with
          | false =>
           have X_ := Lib.hid x
           have KE := Lib.hid K1
           have RD := Lib.hid r1
           clear x K1 r1
           go_wp2_with fail
           go_roundw
           case rel => exact ⟨k + 1, a, cc, [], by omega, by go_num, rfl, hv3, VF.out, RW.out, CLS.out, X_.out, RD.out, KE.out, hs1⟩
           case measure => simp [intOf]; omega
          | true =>
           have NX := Lib.hid (UC.out.later2 K1 hg (Y := OwX X a cc) (fun b hb hy => by
            rcases hy with h | h
            ·
             exact h
            ·
             have := (hrb b h).1
             omega))
           have hs3 : w.heap.size + 1 ≤ w1.heap.size := by omega
           clear UC
           go_wp2_with (at_builtin; refine wpList_append_rowM rfl _ _ rfl (0 + 1) elmVx rfl rfl (RW.out.below ((Below.refl w1.heap.size w1).alloc (Nat.le_refl _) _)) (ys := [⟨(j : Int), .slice ax m.cl.length qx, m.cl⟩]) (fun z hz => by rw [List.mem_singleton.1 hz]; exact vx_one (w := w1) NX.out.out) (rows_of_block (R := Vx.cs) (zs := [⟨(j : Int), .slice ax m.cl.length qx, m.cl⟩]) two_len (heap_alloc_new w1 _)) (by simp) rfl rfl (by simp only [maxLen]; omega) (by omega) (by simp; omega) ?_)
           intro a3 c3 U3 q3
           have kA : Below w1.heap.size w1 (w1.alloc (.cells #[.int .i64 (j : Int), .slice ax m.cl.length qx] 65)) := (Below.refl w1.heap.size w1).alloc (Nat.le_refl _) _
           have k3w : Below (w.heap.size + 1) w1 U3 := (kA.mono hs3).trans (q3.below (by simp; omega) (fun g' hg' => (hrb g' hg').1))
           clear cx fx lx cv fv lv
           replace x := carryB k3w (by omega) x
           replace r1 := r1.below (k3w.mono (by omega))
           have k4 : w.grownBy U3 (some g) := grown_bel K1 (k3w.mono (by omega))
           have hs4 : w.heap.size + 2 ≤ U3.heap.size := by have := k3w.size; omega
           have CL2 := Lib.hid (((CLS.out.and NX.out).imp (G := fun V => ∀ z ∈ [] ++ [⟨(j : Int), .slice ax m.cl.length qx, m.cl⟩], IsSl V z.sl 7 Cl.cs z.cl) (fun V h z hz => (List.mem_append.1 hz).elim (h.1 z) (fun hz' => by rw [List.mem_singleton.1 hz']; exact h.2))).below kA |>.appendedX q3)
           have RW2 := Lib.hid q3.row
           have VF2 := Lib.hid (show VsFit ([] ++ [⟨(j : Int), .slice ax m.cl.length qx, m.cl⟩]) from ⟨by first | (simp; done) | (simp; omega), fun z hz => (List.mem_append.1 hz).elim (VF.out.2 z) (fun hz' => by rw [List.mem_singleton.1 hz']; exact UF.out.1)⟩)
           have X_ := Lib.hid x
           have KE := Lib.hid k4
           have RD := Lib.hid r1
           clear q3 kA k3w RW CLS VF NX K1 k4 x v r1
           go_wp2_with fail
           go_roundw
           case rel => exact ⟨k + 1, a3, c3, [] ++ [⟨(j : Int), .slice ax m.cl.length qx, m.cl⟩], by omega, by go_num, by simp, by first | (simp; done) | (simp; omega), VF2.out, RW2.out, CL2.out, X_.out, RD.out, KE.out, hs4⟩
           case measure => simp [intOf]; omega
         ·
          skip
          rw [List.concat_eq_append] at hcon
          subst hcon
          rw [List.length_append] at h3
          have h3' : vs'.length + 1 < 3 := by simpa using h3
          have hl2 : vs'.length < 2 := by omega
          clear h3'
          have hl2i : (vs'.length : Int) < 2 := by omega
          clear h3
          obtain ⟨bz, oz, ez, hlz, hcz⟩ := RW.out.rows two_len vs'.length (by simp)
          have cz0 := hcz 0 (by omega)
          clear hcz
          have cz1 : V.cell? ⟨bz, oz + vs'.length * 2, none⟩ = some (.int .i64 zl.f) := by simpa [Vx.cs] using cz0
          clear cz0
          subst ez
          obtain ⟨p4, hp4⟩ : ∃ q, decide (zl.f < (j : Int)) = q := ⟨_, rfl⟩
          cases p4 with
          | false =>
           have X_ := Lib.hid x
           have hsE := hs
           have KE := Lib.hid K
           have RD := Lib.hid (hrd.mono (Nat.le_succ _))
           clear x K hs hrd
           go_wp2_with fail
           go_roundw
           case rel => exact ⟨k + 1, some ⟨bz, oz, none⟩, cc, vs' ++ [zl], by omega, by go_num, by simp, hv3, VF.out, RW.out, CLS.out, X_.out, RD.out, KE.out, hsE⟩
           case measure => simp [intOf]; omega
          | true =>
           go_wp2_with fail
           refine (pick_c _ g (P + 110 * j + k) 4 hrd (by omega) (by omega)).mono ?_
           rintro e w1 ⟨v1, rfl, -, -, -, r1, k1⟩
           clear cx fx lx cv fv lv
           have hne0 : ¬ (w.heap.size = g) := by omega
           replace x := carry k1 hne0 x
           replace v := carry k1 hneg v
           replace CLS := Lib.hid (CLS.out.next (Agree.grown k1 (.inl hg)))
           replace RW := Lib.hid (RW.out.kept k1 (fun g' hg' e => by have := (hrb g' hg').1; injection e; omega))
           have K1 := grown_trans K k1
           have hs1 := Nat.le_trans hs k1.size
           clear k1 K hs hrd
           have cx := cell_of_block x
           have fx := unfrozen_of_block x
           have lx := lt_of_block x
           have cv := cell_of_block v
           have fv := unfrozen_of_block v
           have lv := lt_of_block v
           obtain ⟨q, hq⟩ : ∃ q, decide ((0 : Int) < v1) = q := ⟨_, rfl⟩
           cases q with
           | false =>
            have X_ := Lib.hid x
            have KE := Lib.hid K1
            have RD := Lib.hid r1
            clear x K1 r1
            go_wp2_with fail
            go_roundw
            case rel => exact ⟨k + 1, (some ⟨bz, oz, none⟩), cc, (vs' ++ [zl]), by omega, by go_num, by simp, hv3, VF.out, RW.out, CLS.out, X_.out, RD.out, KE.out, hs1⟩
            case measure => simp [intOf]; omega
           | true =>
            have NX := Lib.hid (UC.out.later2 K1 hg (Y := OwX X (some ⟨bz, oz, none⟩) cc) (fun b hb hy => by
             rcases hy with h | h
             ·
              exact h
             ·
              have := (hrb b h).1
              omega))
            have hs3 : w.heap.size + 1 ≤ w1.heap.size := by omega
            clear UC
            go_wp2_with (at_builtin; refine wpList_append_rowM rfl _ _ rfl (vs'.length + 1 + 1) elmVx rfl rfl (RW.out.below ((Below.refl w1.heap.size w1).alloc (Nat.le_refl _) _)) (ys := [⟨(j : Int), .slice ax m.cl.length qx, m.cl⟩]) (fun z hz => by rw [List.mem_singleton.1 hz]; exact vx_one (w := w1) NX.out.out) (rows_of_block (R := Vx.cs) (zs := [⟨(j : Int), .slice ax m.cl.length qx, m.cl⟩]) two_len (heap_alloc_new w1 _)) (by simp) rfl rfl (by simp only [maxLen]; omega) (by omega) (by simp; omega) ?_)
            intro a3 c3 U3 q3
            have kA : Below w1.heap.size w1 (w1.alloc (.cells #[.int .i64 (j : Int), .slice ax m.cl.length qx] 65)) := (Below.refl w1.heap.size w1).alloc (Nat.le_refl _) _
            have k3w : Below (w.heap.size + 1) w1 U3 := (kA.mono hs3).trans (q3.below (by simp; omega) (fun g' hg' => (hrb g' hg').1))
            clear cx fx lx cv fv lv
            replace x := carryB k3w (by omega) x
            replace r1 := r1.below (k3w.mono (by omega))
            have k4 : w.grownBy U3 (some g) := grown_bel K1 (k3w.mono (by omega))
            have hs4 : w.heap.size + 2 ≤ U3.heap.size := by have := k3w.size; omega
            have CL2 := Lib.hid (((CLS.out.and NX.out).imp (G := fun V => ∀ z ∈ (vs' ++ [zl]) ++ [⟨(j : Int), .slice ax m.cl.length qx, m.cl⟩], IsSl V z.sl 7 Cl.cs z.cl) (fun V h z hz => (List.mem_append.1 hz).elim (h.1 z) (fun hz' => by rw [List.mem_singleton.1 hz']; exact h.2))).below kA |>.appendedX q3)
            have RW2 := Lib.hid q3.row
            have VF2 := Lib.hid (show VsFit ((vs' ++ [zl]) ++ [⟨(j : Int), .slice ax m.cl.length qx, m.cl⟩]) from ⟨by first | (simp; done) | (simp; omega), fun z hz => (List.mem_append.1 hz).elim (VF.out.2 z) (fun hz' => by rw [List.mem_singleton.1 hz']; exact UF.out.1)⟩)
            have X_ := Lib.hid x
            have KE := Lib.hid k4
            have RD := Lib.hid r1
            clear q3 kA k3w RW CLS VF NX K1 k4 x v r1
            go_wp2_with fail
            go_roundw
            case rel => exact ⟨k + 1, a3, c3, (vs' ++ [zl]) ++ [⟨(j : Int), .slice ax m.cl.length qx, m.cl⟩], by omega, by go_num, by simp, by first | (simp; done) | (simp; omega), (by simpa using VF2.out), (by simpa using RW2.out), (by simpa using CL2.out), X_.out, RD.out, KE.out, hs4⟩
            case measure => simp [intOf]; omega
        ·
         -- CUT d
         have h31 : ¬ ((vs.length : Int) < 3) := by omega
         have X_ := Lib.hid x
         have hsE := hs
         have KE := Lib.hid K
         have RD := Lib.hid (hrd.mono (Nat.le_succ _))
         clear x K hs hrd
         go_wp2_with fail
         go_roundw
         case rel => exact ⟨k + 1, a, cc, vs, by omega, by go_num, rfl, hv3, VF.out, RW.out, CLS.out, X_.out, RD.out, KE.out, hsE⟩
         case measure => simp [intOf]; omega
    ·
     have hkf : ¬ ((k : Int) < (u.sd.length : Int)) := by omega
     have cx := cell_of_block x
     have fx := unfrozen_of_block x
     have lx := lt_of_block x
     go_wp2_with fail
     clear cx fx lx
     go_roundw
     case rel => exact ⟨j + 1, a, cc, vs, by omega, by go_num, rfl, hv3, VF.out, RW.out, CLS.out, x, hrd.mono (by omega), K, hs⟩
     case measure => simp [intOf]; omega
  ·
   have hj1 : ¬ ((j : Int) < 4) := by omega
   have cx := cell_of_block x
   have fx := unfrozen_of_block x
   have lx := lt_of_block x
   go_wp2_with fail
   go_ret
   exact ⟨a, cc, vs, rfl, hv3, VF.out, ((RW.out.robX two_len (fun b hb => by have := hX b hb; omega)).and (CLS.out.unowX)), hrd.mono (by omega), K⟩
end Go.Proofs.Ytgdhieffjflejaa

/-! DrawE -/
namespace Go.Proofs.Ytgdhieffjflejaa
open Go.RowKit Go.Joins

theorem stored5of11 (w : World) (g : Nat) (o0 o1 o2 o3 o4 o5 o6 o7 o8 o9 o10 v4 v5 v6 v7 v8 : Value) {t : TypeId} (h : w.heap[g]? = some (.cells #[o0, o1, o2, o3, o4, o5, o6, o7, o8, o9, o10] t (0, 0))) :
  ∃ W, W = (((((w.setCell ⟨g, 4, none⟩ v4).setCell ⟨g, 5, none⟩ v5).setCell ⟨g, 6, none⟩ v6).setCell ⟨g, 7, none⟩ v7).setCell ⟨g, 8, none⟩ v8) ∧ W.heap.size = w.heap.size ∧
   W.heap[g]? = some (.cells #[o0, o1, o2, o3, v4, v5, v6, v7, v8, o9, o10] t (0, 0)) ∧ (∀ b, b ≠ g → W.heap[b]? = w.heap[b]?) ∧ Below g w W := by
 obtain ⟨W0, h0, s0, a0, n0, k0⟩ := stored1 w g 4 v4 h
 obtain ⟨W1, h1, s1, a1, n1, k1⟩ := stored1 W0 g 5 v5 a0
 obtain ⟨W2, h2, s2, a2, n2, k2⟩ := stored1 W1 g 6 v6 a1
 obtain ⟨W3, h3, s3, a3, n3, k3⟩ := stored1 W2 g 7 v7 a2
 obtain ⟨W4, h4, s4, a4, n4, k4⟩ := stored1 W3 g 8 v8 a3
 exact ⟨W4, by rw [h4, h3, h2, h1, h0], by omega, by simpa using a4, fun b hb => (n4 b hb).trans ((n3 b hb).trans ((n2 b hb).trans ((n1 b hb).trans (n0 b hb)))), k0.trans (k1.trans (k2.trans (k3.trans (k4))))⟩
/-- An event; the reader has moved on; nothing else that was there has turned. -/
def EvDrawn (X : Nat → Prop) (w : World) (g P : Nat) (e : Ending) (w' : World) : Prop :=
 ∃ (k pt tw : Int) (m : Mg) (a b : Option Addr) (c d : Nat), e = .returned (.agg #[.int .i64 k, .int .i64 pt, .int .i64 tw, .int .i64 m.k, .int .i64 m.f, .int .i64 m.v, .int .i64 m.s, .int .i64 m.r.c, .int .i64 m.r.n, .int .i64 m.r.o, .int .i64 m.r.x, .int .i64 m.r.y, .slice a m.cl.length c, .slice b m.vs.length d]) ∧ m.vc = .slice a m.cl.length c ∧ m.vv = .slice b m.vs.length d ∧ m.fit ∧ Rob X m.ok w' ∧ Rdr w' g (P + 600) ∧ w.grownBy w' (some g)
/-- The reader stands; nothing else of V has turned. -/
def RdGr (V : World) (g P : Nat) (w : World) : Prop := Rdr w g P ∧ V.grownBy w (some g)
theorem RdGr.below {V w w' : World} {g P : Nat} (h : RdGr V g P w) (k : Below w.heap.size w w') : RdGr V g P w' := ⟨h.1.below (k.mono (by have := h.1.lt; omega)), grown_trans h.2 (grown_of_below k _)⟩
theorem Rdr.block {w : World} {g P : Nat} (h : Rdr w g P) : ∃ (old : Array Value) (t : TypeId), w.heap[g]? = some (.cells old t (0, 0)) := by
 obtain ⟨a, len, cap, p, hg, _⟩ := h
 exact ⟨_, _, hg⟩
theorem KE.bel2 {B E : Nat} {W w w' : World} (h : (∀ b o, b < B → b ≠ E → w.cell? ⟨b, o, none⟩ = W.cell? ⟨b, o, none⟩) ∧ W.heap.size ≤ w.heap.size) (k : Below B w w') : (∀ b o, b < B → b ≠ E → w'.cell? ⟨b, o, none⟩ = W.cell? ⟨b, o, none⟩) ∧ W.heap.size ≤ w'.heap.size :=
 ⟨fun b o hb hne => (k.cell (p := ⟨b, o, none⟩) hb).trans (h.1 b o hb hne), Nat.le_trans h.2 k.size⟩
theorem KE.grown {B E : Nat} {W w w' : World} (h : (∀ b o, b < B → b ≠ E → w.cell? ⟨b, o, none⟩ = W.cell? ⟨b, o, none⟩) ∧ W.heap.size ≤ w.heap.size) (hB : B ≤ W.heap.size) (k : w.grownBy w' (some E)) : (∀ b o, b < B → b ≠ E → w'.cell? ⟨b, o, none⟩ = W.cell? ⟨b, o, none⟩) ∧ W.heap.size ≤ w'.heap.size :=
 ⟨fun b o hb hne => (World.cell?_of_block (w := w) (w' := w') (a := ⟨b, o, none⟩) (k.block b (Nat.lt_of_lt_of_le hb (Nat.le_trans hB h.2)) (fun e => hne (by injection e)))).trans (h.1 b o hb hne), Nat.le_trans h.2 k.size⟩
/-- Rows that stand whatever happens to a block do not lie in it. -/
theorem Rob.apart {α : Type} {X : Nat → Prop} {w : World} {b1 o1 g k j : Nat} {R : α → List Value} {zs : List α} {old : Array Value} {t : TypeId} (hk : 0 < k) (hR : ∀ z, (R z).length = k) (h : Rob X (fun V => RowsAt V (some ⟨b1, o1, none⟩) k R zs) w) (hg : X g) (hb : w.heap[g]? = some (.cells old t (0, 0))) (hj : j < zs.length) : ¬ (b1 = g) := by
 rintro rfl
 obtain ⟨V, -, hs, hV, ho, -⟩ := rowPut hb #[]
 obtain ⟨b, off, e, -, hc⟩ := h V (agree_set hs ho hg) j hj
 simp only [Option.some.injEq, Addr.mk.injEq, and_true] at e
 obtain ⟨rfl, rfl⟩ := e
 have h0 := hc 0 hk
 rw [cell_of_block hV] at h0
 have h1 := hR zs[j]
 rw [List.getElem?_eq_getElem (by omega)] at h0
 simp at h0

set_option maxRecDepth 100000 in
set_option maxHeartbeats 16000000 in
theorem l20Event_c (X : Nat → Prop) (T D : Nat) (u : Wd) (w : World) (g P : Nat) (hr : Rdr w g P) (hP : P ≤ 1099510000000) (h : Rob X u.ok w) (hf : u.fit T D) (hg : X g) (hX : ∀ b, X b → b < w.heap.size) :
  Calls Try.prog 82 #[.pointer (some ⟨g, 0, none⟩), .agg #[.int .i64 u.bad, .slice u.ra u.rp.length u.rc, .slice u.sa u.sd.length u.sc]] w (EvDrawn X w g P) := by
 have hlt0 := hr.lt
 have HO := Lib.hid h
 have HF := Lib.hid hf
 have hsd : u.sd.length ≤ 100 := hf.sd
 obtain ⟨-, hlc, hmx, hrt⟩ := h.out.2.2.1.bounds
 unfold maxLen at hmx
 clear h hf hrt
 go_enter Try.func82, Try.ntmps82
 go_upto_region 1 with fail
 obtain ⟨W, hW_, sW, x, z, kW⟩ := blocks2 w (.cells #[.int .i64 u.bad, .slice u.ra u.rp.length u.rc, .slice u.sa u.sd.length u.sc] 50) (.cells #[.int .i64 0, .int .i64 0, .int .i64 0, .int .i64 0, .int .i64 0, .int .i64 0, .int .i64 0, .int .i64 0, .int .i64 0, .int .i64 0, .int .i64 0, .int .i64 0, .slice none 0 0, .slice none 0 0] 112)
 rw [← hW_]
 clear hW_
 have hsW : w.heap.size + 2 ≤ W.heap.size := by omega
 obtain ⟨X1, hlt, hin, hsub, hlow⟩ : ∃ X1 : Nat → Prop, (∀ b, X1 b → b < W.heap.size) ∧ (∀ b, w.heap.size ≤ b → b < W.heap.size → X1 b) ∧ (∀ b, X b → X1 b) ∧ (∀ b, b < w.heap.size → X1 b → X b) :=
  ⟨Bx X w.heap.size W.heap.size, Bx.lt hX (by omega), fun b h1 h2 => .inr ⟨h1, h2⟩, fun b hb => .inl hb, fun b hb h => h.elim id (fun h2 => absurd h2.1 (by omega))⟩
 clear sW
 have r0 := hr.below (kW.mono (by omega))
 have HXK := Lib.hid (fun (V : World) (k : w.grownBy V (some g)) (Y : Nat → Prop) (hY : ∀ b, b < w.heap.size → Y b → X b) => HO.out.later2 k hg hY)
 have K : w.grownBy W (some g) := grown_of_below kW _
 clear hr kW HO
 have hne0 : ¬ (w.heap.size = g) := by omega
 have hne1 : ¬ (w.heap.size + 1 = g) := by omega
 have cx := cell_of_block x
 have fx := unfrozen_of_block x
 have lx := lt_of_block x
 have cz := cell_of_block z
 have fz := unfrozen_of_block z
 have lz := lt_of_block z
 go_wp2_with fail
 refine (pick_c _ g (P) 4 r0 (by omega) (by omega)).mono ?_
 rintro e w1 ⟨v1, rfl, av1, bv1, -, rv1, kv1⟩
 replace bv1 := bv1 (by omega)
 clear cx fx lx cz fz lz
 replace x := carry kv1 hne0 x
 replace z := carry kv1 hne1 z
 have hsv1 : W.heap.size ≤ w1.heap.size := Nat.le_trans (Nat.le_refl W.heap.size) kv1.size
 replace K := grown_trans K kv1
 clear kv1 r0
 have cx := cell_of_block x
 have fx := unfrozen_of_block x
 have lx := lt_of_block x
 have cz := cell_of_block z
 have fz := unfrozen_of_block z
 have lz := lt_of_block z
 go_wp2_with fail
 refine (pick_c _ g (P + 1) 14 rv1 (by omega) (by omega)).mono ?_
 rintro e w2 ⟨v2, rfl, av2, bv2, -, rv2, kv2⟩
 replace bv2 := bv2 (by omega)
 clear cx fx lx cz fz lz
 replace x := carry kv2 hne0 x
 replace z := carry kv2 hne1 z
 have hsv2 : W.heap.size ≤ w2.heap.size := Nat.le_trans hsv1 kv2.size
 replace K := grown_trans K kv2
 clear kv2 rv1
 have h5 : (v2 = 0 ∨ v2 = 1) ∨ v2 = 2 ∨ (v2 = 3 ∨ v2 = 4) ∨ 5 ≤ v2 := by omega
 rcases h5 with h5 | rfl | h5 | h5
 ·
  skip
  go_upto_if 13 with fail
  go_cut [13] (fun s wx => s = .bool true ∧ wx = w2)
  case first =>
   rcases h5 with rfl | rfl
   all_goals
    go_wp2_with fail
    go_meet
    exact ⟨rfl, rfl⟩
  case rest =>
   obtain ⟨rfl, hwc⟩ := hcut
   rw [hwc]
   clear hwc h5
   have cx := cell_of_block x
   have fx := unfrozen_of_block x
   have lx := lt_of_block x
   have cz := cell_of_block z
   have fz := unfrozen_of_block z
   have lz := lt_of_block z
   go_wp2_with fail
   refine (l20Req_c _ g (P + 1 + 1) rv2 (by omega)).mono ?_
   rintro e w3 ⟨r, rfl, -, -, r3, k3⟩
   clear cx fx lx cz fz lz
   replace x := carry k3 hne0 x
   replace z := carry k3 hne1 z
   have hs3 : W.heap.size ≤ w3.heap.size := Nat.le_trans hsv2 k3.size
   replace K := grown_trans K k3
   clear k3 rv2
   have KK := K
   have cx := cell_of_block x
   have fx := unfrozen_of_block x
   have lx := lt_of_block x
   have cz := cell_of_block z
   have fz := unfrozen_of_block z
   have lz := lt_of_block z
   go_wp2_with fail
   refine bodyPost_ret (v := .agg #[.int .i64 1, .int .i64 0, .int .i64 0, .int .i64 0, .int .i64 0, .int .i64 0, .int .i64 0, .int .i64 r.c, .int .i64 r.n, .int .i64 r.o, .int .i64 r.x, .int .i64 r.y, .slice none 0 0, .slice none 0 0]) (by simp [results, Try.results82, go_sem, cz]) rfl ?_
   exact ⟨1, 0, 0, plainM 0 0 0 0 r, none, none, 0, 0, rfl, rfl, rfl, plainM_fit _ _ _ _ _, fun V' _ => plainM_ok V' _ _ _ _ _, (r3.below (by repeat' (first | with_reducible exact Below.refl _ _ | with_reducible assumption | with_reducible refine Below.alloc ?_ ?_ _ | with_reducible refine Below.drew ?_ | with_reducible refine Below.setCell ?_ ?_ _ | omega | (simp; omega) | (simp; done)))).mono (by omega), by repeat (first | with_reducible exact KK | with_reducible refine grown_alloc ?_ _ | with_reducible refine grown_setCell ?_ (.inr (by simp; try omega)) _)⟩
 ·
  skip
  have KK := K
  have cx := cell_of_block x
  have fx := unfrozen_of_block x
  have lx := lt_of_block x
  have cz := cell_of_block z
  have fz := unfrozen_of_block z
  have lz := lt_of_block z
  go_wp2_with fail
  refine bodyPost_ret (v := .agg #[.int .i64 3, .int .i64 0, .int .i64 v1, .int .i64 0, .int .i64 0, .int .i64 0, .int .i64 0, .int .i64 0, .int .i64 0, .int .i64 0, .int .i64 0, .int .i64 0, .slice none 0 0, .slice none 0 0]) (by simp [results, Try.results82, go_sem, cz]) rfl ?_
  exact ⟨3, 0, v1, plainM 0 0 0 0 ⟨0, 0, 0, 0, 0⟩, none, none, 0, 0, rfl, rfl, rfl, plainM_fit _ _ _ _ _, fun V' _ => plainM_ok V' _ _ _ _ _, (rv2.below (by repeat' (first | with_reducible exact Below.refl _ _ | with_reducible assumption | with_reducible refine Below.alloc ?_ ?_ _ | with_reducible refine Below.drew ?_ | with_reducible refine Below.setCell ?_ ?_ _ | omega | (simp; omega) | (simp; done)))).mono (by omega), by repeat (first | with_reducible exact KK | with_reducible refine grown_alloc ?_ _ | with_reducible refine grown_setCell ?_ (.inr (by simp; try omega)) _)⟩
 ·
  have n0 : (v2 == 0) = false := by simp; omega
  have n1 : (v2 == 1) = false := by simp; omega
  have n2 : (v2 == 2) = false := by simp; omega
  go_upto_if 24 with fail
  go_cut [24] (fun s wx => s = .bool true ∧ wx = w2)
  case first =>
   rcases h5 with rfl | rfl
   all_goals
    go_wp2_with fail
    go_meet
    exact ⟨rfl, rfl⟩
  case rest =>
   obtain ⟨rfl, hwc⟩ := hcut
   rw [hwc]
   clear hwc h5 n0 n1 n2
   have cx := cell_of_block x
   have fx := unfrozen_of_block x
   have lx := lt_of_block x
   have cz := cell_of_block z
   have fz := unfrozen_of_block z
   have lz := lt_of_block z
   go_wp2_with fail
   refine (l20Msg_c _ g (P + 1 + 1) rv2 (by omega)).mono ?_
   rintro e w3 ⟨m, a, c, b, d, rfl, hv1, hv2, hmf, hmo, r3, k3⟩
   clear cx fx lx cz fz lz
   have hg1 : X1 g := hsub g hg
   have MO := Lib.hid (hmo.weak (X' := X1) (fun b hb => Nat.lt_of_lt_of_le (hlt b hb) (by omega)))
   rw [show m.ok = fun V => m.ok V from rfl] at MO
   have MOC := Lib.hid (MO.out.imp (G := fun V => IsSl V (.slice a m.cl.length c) 7 Cl.cs m.cl) (fun V h => hv1 ▸ h.1))
   have MOV := Lib.hid (MO.out.imp (G := fun V => IsVs V (.slice b m.vs.length d) m.vs) (fun V h => hv2 ▸ h.2))
   have MF := Lib.hid hmf
   replace x := carry k3 hne0 x
   replace z := carry k3 hne1 z
   have hs3 : W.heap.size ≤ w3.heap.size := Nat.le_trans hsv2 k3.size
   replace K := grown_trans K k3
   clear k3 rv2 hmo hmf hv1 hv2 MO
   have cx := cell_of_block x
   have fx := unfrozen_of_block x
   have lx := lt_of_block x
   have cz := cell_of_block z
   have fz := unfrozen_of_block z
   have lz := lt_of_block z
   go_upto_region 11 with fail
   obtain ⟨V, hV, sV, l, kV⟩ := blocks1 w3 (.cells #[.int .i64 m.k, .int .i64 m.f, .int .i64 m.v, .int .i64 m.s, .int .i64 m.r.c, .int .i64 m.r.n, .int .i64 m.r.o, .int .i64 m.r.x, .int .i64 m.r.y, .slice a m.cl.length c, .slice b m.vs.length d] 34)
   rw [← hV]
   clear hV
   clear cx fx lx cz fz lz
   have lz_ := lt_of_block z
   replace x := carryB kV (lt_of_block x) x
   replace z := carryB kV lz_ z
   have hg3 : g < w3.heap.size := r3.lt
   replace r3 := r3.below (kV.mono (by omega))
   have K4 : w3.grownBy V (some g) := grown_of_below kV _
   have hs4 : w3.heap.size < V.heap.size := by omega
   clear kV sV lz_
   have hneG : ¬ (w3.heap.size = g) := by omega
   have hneG2 : ¬ (g = w3.heap.size) := by omega
   obtain ⟨q1, hq1⟩ : ∃ q, decide (0 < u.sd.length) = q := ⟨_, rfl⟩
   go_cut [37] (fun s37 wx => ∃ q : Bool, s37 = .bool q ∧ (q = true → 0 < u.sd.length) ∧ wx.heap[w.heap.size]? = some (.cells #[.int .i64 u.bad, .slice u.ra u.rp.length u.rc, .slice u.sa u.sd.length u.sc] 50 (0, 0)) ∧ wx.heap[w.heap.size + 1]? = some (.cells #[.int .i64 0, .int .i64 0, .int .i64 0, .int .i64 0, .int .i64 0, .int .i64 0, .int .i64 0, .int .i64 0, .int .i64 0, .int .i64 0, .int .i64 0, .int .i64 0, .slice none 0 0, .slice none 0 0] 112 (0, 0)) ∧ wx.heap[w3.heap.size]? = some (.cells #[.int .i64 m.k, .int .i64 m.f, .int .i64 m.v, .int .i64 m.s, .int .i64 m.r.c, .int .i64 m.r.n, .int .i64 m.r.o, .int .i64 m.r.x, .int .i64 m.r.y, .slice a m.cl.length c, .slice b m.vs.length d] 34 (0, 0)) ∧ Rdr wx g (P + 1 + 1 + 130 + 1) ∧ w3.grownBy wx (some g) ∧ w3.heap.size < wx.heap.size)
   case first =>
    cases q1 with
    | false =>
     have hq1' : ¬ (0 < u.sd.length) := of_decide_eq_false hq1
     have hr3 := r3.mono (Q := P + 1 + 1 + 130 + 1) (by omega)
     have cx := cell_of_block x
     have fx := unfrozen_of_block x
     have lx := lt_of_block x
     have cz := cell_of_block z
     have fz := unfrozen_of_block z
     have lz := lt_of_block z
     have cl := cell_of_block l
     have fl := unfrozen_of_block l
     have ll := lt_of_block l
     go_wp2_with fail
     go_meet
     exact ⟨false, rfl, (fun h => nomatch h), x, z, l, hr3, K4, hs4⟩
    | true =>
     have hq1' : 0 < u.sd.length := of_decide_eq_true hq1
     have cx := cell_of_block x
     have fx := unfrozen_of_block x
     have lx := lt_of_block x
     have cz := cell_of_block z
     have fz := unfrozen_of_block z
     have lz := lt_of_block z
     have cl := cell_of_block l
     have fl := unfrozen_of_block l
     have ll := lt_of_block l
     go_wp2_with fail
     refine (pick_c _ g (P + 1 + 1 + 130) 3 r3 (by omega) (by omega)).mono ?_
     rintro e V1 ⟨v5, rfl, -, -, -, r5, k5⟩
     clear cx fx lx cz fz lz cl fl ll
     replace x := carry k5 hne0 x
     replace z := carry k5 hne1 z
     replace l := carry k5 hneG l
     replace K4 := grown_trans K4 k5
     have hs5 := Nat.lt_of_lt_of_le hs4 k5.size
     clear k5 r3 hs4
     obtain ⟨q2, hq2⟩ : ∃ q, decide ((0 : Int) < v5) = q := ⟨_, rfl⟩
     cases q2
     all_goals
      have cx := cell_of_block x
      have fx := unfrozen_of_block x
      have lx := lt_of_block x
      have cz := cell_of_block z
      have fz := unfrozen_of_block z
      have lz := lt_of_block z
      have cl := cell_of_block l
      have fl := unfrozen_of_block l
      have ll := lt_of_block l
      go_wp2_with fail
      go_meet
      exact ⟨_, rfl, fun _ => hq1', x, z, l, r5, K4, hs5⟩
   case rest =>
    clear x z l r3 K4 hs4 hq1 q1
    obtain ⟨q, rfl, hq, x, z, l, r5, K4, hs5⟩ := hcut
    obtain ⟨V1, eV⟩ : ∃ V1, V1 = wc := ⟨_, rfl⟩
    subst eV
    go_upto_if 37 with fail
    go_cut [7] (fun s7 wx => ∃ (m' : Mg) (a' b' : Option Addr) (c' d' : Nat), wx.heap[w3.heap.size]? = some (.cells #[.int .i64 m'.k, .int .i64 m'.f, .int .i64 m'.v, .int .i64 m'.s, .int .i64 m'.r.c, .int .i64 m'.r.n, .int .i64 m'.r.o, .int .i64 m'.r.x, .int .i64 m'.r.y, .slice a' m'.cl.length c', .slice b' m'.vs.length d'] 34 (0, 0)) ∧ m'.vc = .slice a' m'.cl.length c' ∧ m'.vv = .slice b' m'.vs.length d' ∧ m'.fit ∧ Rob X1 m'.ok wx ∧ wx.heap[w.heap.size + 1]? = some (.cells #[.int .i64 0, .int .i64 0, .int .i64 0, .int .i64 0, .int .i64 0, .int .i64 0, .int .i64 0, .int .i64 0, .int .i64 0, .int .i64 0, .int .i64 0, .int .i64 0, .slice none 0 0, .slice none 0 0] 112 (0, 0)) ∧ Rdr wx g (P + 580) ∧ w.grownBy wx (some g))
    case rest =>
     obtain ⟨m', a', b', c', d', l', hv1, hv2, hmf', hmo', z', r9, KK⟩ := hcut
     have MV9 := Lib.hid (And.intro hv1 hv2)
     have MF9 := Lib.hid hmf'
     have MO9 := Lib.hid hmo'
     clear hv1 hv2 hmf' hmo' x z l r5 K4 hq
     have cz' := cell_of_block z'
     have fz' := unfrozen_of_block z'
     have lz' := lt_of_block z'
     have cl' := cell_of_block l'
     have fl' := unfrozen_of_block l'
     have ll' := lt_of_block l'
     go_wp2_with fail
     refine bodyPost_ret (v := .agg #[.int .i64 4, .int .i64 0, .int .i64 0, .int .i64 m'.k, .int .i64 m'.f, .int .i64 m'.v, .int .i64 m'.s, .int .i64 m'.r.c, .int .i64 m'.r.n, .int .i64 m'.r.o, .int .i64 m'.r.x, .int .i64 m'.r.y, .slice a' m'.cl.length c', .slice b' m'.vs.length d']) (by simp [results, Try.results82, go_sem, cz']) rfl ?_
     refine ⟨4, 0, 0, m', a', b', c', d', rfl, MV9.out.1, MV9.out.2, MF9.out, Rob.weak (X := X1) ?_ hsub, (r9.below (by repeat' (first | with_reducible exact Below.refl _ _ | with_reducible assumption | with_reducible refine Below.alloc ?_ ?_ _ | with_reducible refine Below.drew ?_ | with_reducible refine Below.setCell ?_ ?_ _ | omega | (simp; omega) | (simp; done)))).mono (by omega), by repeat (first | with_reducible exact KK | with_reducible refine grown_alloc ?_ _ | with_reducible refine grown_setCell ?_ (.inr (by simp; try omega)) _)⟩
     have hR := MO9.out
     repeat' (first | with_reducible exact hR | refine Rob.setX ?_ (hin _ (by simp only; omega) (by simp only; omega)) _)
    case first =>
     cases q with
     | false =>
      have KK := grown_trans K K4
      have hR : Rob X1 (Mg.ok · ⟨m.k, m.f, m.v, m.s, m.r, .slice a m.cl.length c, .slice b m.vs.length d, m.cl, m.vs⟩) V1 := (((MOC.out.later2 K4 hg1 (fun b hb hy => hy)))).and (((MOV.out.later2 K4 hg1 (fun b hb hy => hy))))
      have cx := cell_of_block x
      have fx := unfrozen_of_block x
      have lx := lt_of_block x
      have cl := cell_of_block l
      have fl := unfrozen_of_block l
      have ll := lt_of_block l
      go_wp2_with fail
      go_meet
      exact ⟨⟨m.k, m.f, m.v, m.s, m.r, .slice a m.cl.length c, .slice b m.vs.length d, m.cl, m.vs⟩, a, b, c, d, l, rfl, rfl, MF.out, hR, z, r5.mono (by omega), KK⟩
     | true =>
       have hq1' : 0 < u.sd.length := hq rfl
       have HV1 := Lib.hid (HXK.out V1 (grown_trans K K4) X1 hlow)
       have cx := cell_of_block x
       have fx := unfrozen_of_block x
       have lx := lt_of_block x
       have cz := cell_of_block z
       have fz := unfrozen_of_block z
       have lz := lt_of_block z
       have cl := cell_of_block l
       have fl := unfrozen_of_block l
       have ll := lt_of_block l
       go_upto_region 12 with fail
       clear cx fx lx cz fz lz cl fl ll
       go_cut [7] (fun s7 wx => ∃ (g2 : Nat) (v : Mg) (ax bx : Option Addr) (qx dx : Nat), s7 = .pointer (some ⟨g2, 0, none⟩) ∧ V1.heap.size ≤ g2 ∧ wx.heap[g2]? = some (.cells #[.int .i64 v.k, .int .i64 v.f, .int .i64 v.v, .int .i64 v.s, .int .i64 v.r.c, .int .i64 v.r.n, .int .i64 v.r.o, .int .i64 v.r.x, .int .i64 v.r.y, .slice ax v.cl.length qx, .slice bx v.vs.length dx] 34 (0, 0)) ∧ Rdr wx g (P + 1 + 1 + 130 + 1 + 1) ∧ V1.grownBy wx (some g))
       case first =>
        obtain ⟨oldr, tr, hrb⟩ := r5.block
        have hsE := HV1.out.out.2.2.1.bounds.2.2.2
        obtain ⟨b1, o1, es, -⟩ := mg_at hsE 0 hq1'
        have hb1 : ¬ (b1 = g) := Rob.apart (R := Mg.cs) (by decide) eleven_len ((HV1.out.imp (G := fun V => RowsAt V (some ⟨b1, o1, none⟩) 11 Mg.cs u.sd) (fun V h => es ▸ h.2.2.1.bounds.2.2.2))) hg1 hrb hq1'
        have MA := Lib.hid (mg_at hsE)
        clear hsE hrb
        have ESA := Lib.hid es
        rw [es] at x
        clear es
        have hBW := Nat.le_refl V1.heap.size
        have KD := Lib.hid (Below.refl V1.heap.size V1)
        have hgV1 : g < V1.heap.size := r5.lt
        have RF := Lib.hid (show RdGr V1 g (P + 1 + 1 + 130 + 1) V1 from ⟨r5, grown_refl V1 (some g)⟩)
        clear r5
        have cx := cell_of_block x
        have fx := unfrozen_of_block x
        have lx := lt_of_block x
        refine wp_region_L (fun w' => (∀ b o, b < V1.heap.size → b ≠ g → w'.cell? ⟨b, o, none⟩ = V1.cell? ⟨b, o, none⟩) ∧ V1.heap.size ≤ w'.heap.size) [] (by kernel_rfl) ?_
        obtain ⟨V1_0, hw_, kw_⟩ : ∃ wd, wd = V1.drew ∧ Below V1.heap.size V1 wd := ⟨_, rfl, Below.drew (Below.refl _ _)⟩
        rw [← hw_]
        clear hw_
        have hS := KE.next hBW (KE.refl V1.heap.size (g) V1) kw_
        replace KD := Lib.hid (below_next KD.out kw_)
        replace RF := Lib.hid (RF.out.below kw_)
        clear kw_
        refine wpAnyL_take (i := 0) (oi := _) (v := ?_) (by (simp only [List.getElem?_toArray]; rfl)) (by kernel_rfl) (by kernel_rfl) (by kernel_rfl) (by kernel_rfl) (by exact fun _ _ _ h => h) (Or.inl ⟨by rfl, ?_⟩) (by assumption) ?_
        rotate_left
        ·
         intro wS hSw
         go_simp
         all_goals first | with_reducible rfl | rw [if_neg (by omega)]
        simp only [Act.put, List.setIfInBounds_toArray, List.set]
        refine wpAnyL_take (i := 1) (oi := _) (v := ?_) (by (simp only [List.getElem?_toArray]; rfl)) (by kernel_rfl) (by kernel_rfl) (by kernel_rfl) (by kernel_rfl) (by exact fun _ _ _ h => h) (Or.inl ⟨by rfl, ?_⟩) (by assumption) ?_
        rotate_left
        ·
         intro wS hSw
         go_simp
         all_goals first | with_reducible rfl | rw [if_neg (by omega)]
        simp only [Act.put, List.setIfInBounds_toArray, List.set]
        refine wpAnyL_take (i := 2) (oi := _) (v := ?_) (by (simp only [List.getElem?_toArray]; rfl)) (by kernel_rfl) (by kernel_rfl) (by kernel_rfl) (by kernel_rfl) (by exact fun _ _ _ h => h) (Or.inl ⟨by rfl, ?_⟩) (by assumption) ?_
        rotate_left
        ·
         intro wS hSw
         go_simp
         all_goals first | with_reducible rfl | rw [if_neg (by omega)]
        simp only [Act.put, List.setIfInBounds_toArray, List.set]
        refine wpAnyL_take (i := 3) (oi := _) (v := ?_) (by (simp only [List.getElem?_toArray]; rfl)) (by kernel_rfl) (by kernel_rfl) (by kernel_rfl) (by kernel_rfl) (by exact fun _ _ _ h => h) (Or.inl ⟨by rfl, ?_⟩) (by assumption) ?_
        rotate_left
        ·
         intro wS hSw
         go_simp
         all_goals first | with_reducible rfl | rw [if_neg (by omega)]
        simp only [Act.put, List.setIfInBounds_toArray, List.set]
        refine wpAnyL_take (i := 4) (oi := _) (v := ?_) (by (simp only [List.getElem?_toArray]; rfl)) (by kernel_rfl) (by kernel_rfl) (by kernel_rfl) (by kernel_rfl) (by exact fun _ _ _ h => h) (Or.inl ⟨by rfl, ?_⟩) (by assumption) ?_
        rotate_left
        ·
         intro wS hSw
         go_simp
         all_goals first | with_reducible rfl | rw [if_neg (by omega)]
        simp only [Act.put, List.setIfInBounds_toArray, List.set]
        refine wpAnyL_take (i := 5) (oi := _) (v := ?_) (by (simp only [List.getElem?_toArray]; rfl)) (by kernel_rfl) (by kernel_rfl) (by kernel_rfl) (by kernel_rfl) (by exact fun _ _ _ h => h) (Or.inl ⟨by rfl, ?_⟩) (by assumption) ?_
        rotate_left
        ·
         intro wS hSw
         go_simp
         all_goals first | with_reducible rfl | rw [if_neg (by omega)]
        simp only [Act.put, List.setIfInBounds_toArray, List.set]
        refine wpAnyL_ready (rs := [6, 9]) (by kernel_rfl) (by simp) ?_
        refine AllReadyL.cons (o := _) (by (simp only [List.getElem?_toArray]; rfl)) (fun K hK => ?_) ?_
        ·
         skip
         go_simp
         refine (pick_c V1_0 g (P + 1 + 1 + 130 + 1) (u.sd.length : Int) RF.out.1 (by omega) (by omega)).mono ?_
         rintro e V1_1 ⟨v6, rfl, a6, b6, -, r6_, k6_⟩
         replace b6 := b6 (by omega)
         replace RF := Lib.hid (show RdGr V1 g (P + 1 + 1 + 130 + 1 + 1) V1_1 from ⟨r6_, grown_trans RF.out.2 k6_⟩)
         replace hS := KE.grown hS hBW k6_
         replace KD := Lib.hid (Below.refl V1_1.heap.size V1_1)
         clear r6_ k6_
         obtain ⟨j, rfl⟩ := Int.eq_ofNat_of_zero_le a6
         have hjl : j < u.sd.length := by omega
         have hj0 : (0 : Int) ≤ (j : Int) := by omega
         have hji : (j : Int) < (u.sd.length : Int) := by omega
         obtain ⟨b1', o1', e', hl', hd⟩ := MA.out j hjl
         rw [ESA.out] at e'
         simp only [Option.some.injEq, Addr.mk.injEq, and_true] at e'
         obtain ⟨rfl, rfl⟩ := e'
         obtain ⟨d0, d1, d2, d3, d4, d5, d6, d7, d8, d9, d10⟩ := hd V1 (Below.refl _ _)
         obtain ⟨ax, qx, bx, dx, ex, fx⟩ := Mg.ok.slices (HV1.out.out.2.2.2 u.sd[j] (List.getElem_mem hjl))
         clear hd
         generalize u.sd[j] = v at *
         rw [ex] at d9
         rw [fx] at d10
         clear ex fx
         refine hK.out _ _ (fun _ => hS) ?_
         clear hK K
         try simp only [Act.put, List.setIfInBounds_toArray, List.set]
         refine wpAnyL_take (i := 7) (oi := _) (v := ?_) (by (simp only [List.getElem?_toArray]; rfl)) (by kernel_rfl) (by kernel_rfl) (by kernel_rfl) (by kernel_rfl) (by exact fun _ _ _ h => h) (Or.inl ⟨by rfl, ?_⟩) (by assumption) ?_
         rotate_left
         ·
          intro wS hSw
          go_simp
          all_goals first | with_reducible rfl | rw [if_neg (by omega)]
         simp only [Act.put, List.setIfInBounds_toArray, List.set]
         refine wpAnyL_take (i := 8) (oi := _) (v := ?_) (by (simp only [List.getElem?_toArray]; rfl)) (by kernel_rfl) (by kernel_rfl) (by kernel_rfl) (by kernel_rfl) (by exact fun _ _ _ h => h) (Or.inl ⟨by rfl, ?_⟩) (by assumption) ?_
         rotate_left
         ·
          intro wS hSw
          go_simp
          all_goals first | with_reducible rfl | rw [if_neg (by omega)]
         simp only [Act.put, List.setIfInBounds_toArray, List.set]
         refine wpAnyL_ready (rs := [9]) (by kernel_rfl) (by simp) ?_
         refine AllReadyL.cons (o := _) (by (simp only [List.getElem?_toArray]; rfl)) (fun K hK => ?_) AllReadyL.nil
         go_simp
         obtain ⟨V1_2, hw_, sw_, hv_, kw_⟩ := blocks1 V1_1 (.cells #[.int .i64 0, .int .i64 0, .int .i64 0, .int .i64 0, .int .i64 0, .int .i64 0, .int .i64 0, .int .i64 0, .int .i64 0, .slice none 0 0, .slice none 0 0] 34)
         rw [← hw_]
         clear hw_ sw_
         have hg0_ : V1.heap.size ≤ V1_1.heap.size := Nat.le_trans hBW hS.2
         have hgX := Lib.hid (show BlkIs V1_1.heap.size #[.int .i64 0, .int .i64 0, .int .i64 0, .int .i64 0, .int .i64 0, .int .i64 0, .int .i64 0, .int .i64 0, .int .i64 0, .slice none 0 0, .slice none 0 0] 34 V1_2 from hv_)
         clear hv_
         replace hS := KE.next hBW hS kw_
         replace KD := Lib.hid (below_next KD.out kw_)
         replace RF := Lib.hid (RF.out.below kw_)
         clear kw_
         refine hK.out _ _ (fun _ => hS) ?_
         clear hK K
         try simp only [Act.put, List.setIfInBounds_toArray, List.set]
         refine wpAnyL_ready (rs := [10]) (by kernel_rfl) (by simp) ?_
         refine AllReadyL.cons (o := _) (by (simp only [List.getElem?_toArray]; rfl)) (fun K hK => ?_) AllReadyL.nil
         have zq_ := hgX.out
         unfold BlkIs at zq_
         have cq_ := cell_of_block zq_
         have fq_ := unfrozen_of_block zq_
         have lq_ := lt_of_block zq_
         go_simp
         obtain ⟨Q1, hV_, sV_, x9, oV_, kV_⟩ := stored11 V1_2 (V1_1.heap.size) _ _ _ _ _ _ _ _ _ _ _ (.int .i64 v.k) (.int .i64 v.f) (.int .i64 v.v) (.int .i64 v.s) (.int .i64 v.r.c) (.int .i64 v.r.n) (.int .i64 v.r.o) (.int .i64 v.r.x) (.int .i64 v.r.y) (.slice ax v.cl.length qx) (.slice bx v.vs.length dx) zq_
         rw [← hV_]
         clear hV_
         replace RF := Lib.hid (show RdGr V1 g (P + 1 + 1 + 130 + 1 + 1) Q1 from ⟨RF.out.1.below (kV_.mono (by omega)), grown_bel RF.out.2 (kV_.mono hg0_)⟩)
         replace hS := KE.bel2 hS (kV_.mono hg0_)
         clear zq_ cq_ fq_ lq_ kV_ oV_ sV_ hgX
         refine hK.out _ _ (fun _ => hS) ?_
         clear hK K
         try simp only [Act.put, List.setIfInBounds_toArray, List.set]
         refine wpAnyL_done (by kernel_rfl) ?_ _
         clear hS d0 d1 d2 d3 d4 d5 d6 d7 d8 d9 d10
         clear cx fx lx
         go_wp2_with fail
         go_meet
         exact ⟨V1_1.heap.size, v, ax, bx, qx, dx, rfl, hg0_, x9, RF.out.1, RF.out.2⟩
        refine AllReadyL.cons (o := _) (by (simp only [List.getElem?_toArray]; rfl)) (fun K hK => ?_) ?_
        ·
         skip
         go_simp
         obtain ⟨V1_1, hw_, sw_, hv_, kw_⟩ := blocks1 V1_0 (.cells #[.int .i64 0, .int .i64 0, .int .i64 0, .int .i64 0, .int .i64 0, .int .i64 0, .int .i64 0, .int .i64 0, .int .i64 0, .slice none 0 0, .slice none 0 0] 34)
         rw [← hw_]
         clear hw_ sw_
         have hg0_ : V1.heap.size ≤ V1_0.heap.size := Nat.le_trans hBW hS.2
         have hgX := Lib.hid (show BlkIs V1_0.heap.size #[.int .i64 0, .int .i64 0, .int .i64 0, .int .i64 0, .int .i64 0, .int .i64 0, .int .i64 0, .int .i64 0, .int .i64 0, .slice none 0 0, .slice none 0 0] 34 V1_1 from hv_)
         clear hv_
         replace hS := KE.next hBW hS kw_
         replace KD := Lib.hid (below_next KD.out kw_)
         replace RF := Lib.hid (RF.out.below kw_)
         clear kw_
         refine hK.out _ _ (fun _ => hS) ?_
         clear hK K
         try simp only [Act.put, List.setIfInBounds_toArray, List.set]
         refine wpAnyL_ready (rs := [6]) (by kernel_rfl) (by simp) ?_
         refine AllReadyL.cons (o := _) (by (simp only [List.getElem?_toArray]; rfl)) (fun K hK => ?_) AllReadyL.nil
         go_simp
         refine (pick_c V1_1 g (P + 1 + 1 + 130 + 1) (u.sd.length : Int) RF.out.1 (by omega) (by omega)).mono ?_
         rintro e V1_2 ⟨v6, rfl, a6, b6, -, r6_, k6_⟩
         replace b6 := b6 (by omega)
         replace RF := Lib.hid (show RdGr V1 g (P + 1 + 1 + 130 + 1 + 1) V1_2 from ⟨r6_, grown_trans RF.out.2 k6_⟩)
         replace hS := KE.grown hS hBW k6_
         replace KD := Lib.hid (Below.refl V1_2.heap.size V1_2)
         replace hgX := Lib.hid (BlkIs.grown hgX.out k6_ (fun g' e => by injection e with e; omega))
         clear r6_ k6_
         obtain ⟨j, rfl⟩ := Int.eq_ofNat_of_zero_le a6
         have hjl : j < u.sd.length := by omega
         have hj0 : (0 : Int) ≤ (j : Int) := by omega
         have hji : (j : Int) < (u.sd.length : Int) := by omega
         obtain ⟨b1', o1', e', hl', hd⟩ := MA.out j hjl
         rw [ESA.out] at e'
         simp only [Option.some.injEq, Addr.mk.injEq, and_true] at e'
         obtain ⟨rfl, rfl⟩ := e'
         obtain ⟨d0, d1, d2, d3, d4, d5, d6, d7, d8, d9, d10⟩ := hd V1 (Below.refl _ _)
         obtain ⟨ax, qx, bx, dx, ex, fx⟩ := Mg.ok.slices (HV1.out.out.2.2.2 u.sd[j] (List.getElem_mem hjl))
         clear hd
         generalize u.sd[j] = v at *
         rw [ex] at d9
         rw [fx] at d10
         clear ex fx
         refine hK.out _ _ (fun _ => hS) ?_
         clear hK K
         try simp only [Act.put, List.setIfInBounds_toArray, List.set]
         refine wpAnyL_take (i := 7) (oi := _) (v := ?_) (by (simp only [List.getElem?_toArray]; rfl)) (by kernel_rfl) (by kernel_rfl) (by kernel_rfl) (by kernel_rfl) (by exact fun _ _ _ h => h) (Or.inl ⟨by rfl, ?_⟩) (by assumption) ?_
         rotate_left
         ·
          intro wS hSw
          go_simp
          all_goals first | with_reducible rfl | rw [if_neg (by omega)]
         simp only [Act.put, List.setIfInBounds_toArray, List.set]
         refine wpAnyL_take (i := 8) (oi := _) (v := ?_) (by (simp only [List.getElem?_toArray]; rfl)) (by kernel_rfl) (by kernel_rfl) (by kernel_rfl) (by kernel_rfl) (by exact fun _ _ _ h => h) (Or.inl ⟨by rfl, ?_⟩) (by assumption) ?_
         rotate_left
         ·
          intro wS hSw
          go_simp
          all_goals first | with_reducible rfl | rw [if_neg (by omega)]
         simp only [Act.put, List.setIfInBounds_toArray, List.set]
         refine wpAnyL_ready (rs := [10]) (by kernel_rfl) (by simp) ?_
         refine AllReadyL.cons (o := _) (by (simp only [List.getElem?_toArray]; rfl)) (fun K hK => ?_) AllReadyL.nil
         have zq_ := hgX.out
         unfold BlkIs at zq_
         have cq_ := cell_of_block zq_
         have fq_ := unfrozen_of_block zq_
         have lq_ := lt_of_block zq_
         go_simp
         obtain ⟨Q1, hV_, sV_, x9, oV_, kV_⟩ := stored11 V1_2 (V1_0.heap.size) _ _ _ _ _ _ _ _ _ _ _ (.int .i64 v.k) (.int .i64 v.f) (.int .i64 v.v) (.int .i64 v.s) (.int .i64 v.r.c) (.int .i64 v.r.n) (.int .i64 v.r.o) (.int .i64 v.r.x) (.int .i64 v.r.y) (.slice ax v.cl.length qx) (.slice bx v.vs.length dx) zq_
         rw [← hV_]
         clear hV_
         replace RF := Lib.hid (show RdGr V1 g (P + 1 + 1 + 130 + 1 + 1) Q1 from ⟨RF.out.1.below (kV_.mono (by omega)), grown_bel RF.out.2 (kV_.mono hg0_)⟩)
         replace hS := KE.bel2 hS (kV_.mono hg0_)
         clear zq_ cq_ fq_ lq_ kV_ oV_ sV_ hgX
         refine hK.out _ _ (fun _ => hS) ?_
         clear hK K
         try simp only [Act.put, List.setIfInBounds_toArray, List.set]
         refine wpAnyL_done (by kernel_rfl) ?_ _
         clear hS d0 d1 d2 d3 d4 d5 d6 d7 d8 d9 d10
         clear cx fx lx
         go_wp2_with fail
         go_meet
         exact ⟨V1_0.heap.size, v, ax, bx, qx, dx, rfl, hg0_, x9, RF.out.1, RF.out.2⟩
        exact AllReadyL.nil
       case rest =>
        obtain ⟨g2, v, ax, bx, qx, dx, rfl, hg2, p, r6, k6⟩ := hcut
        have hneg2 : ¬ (g2 = w3.heap.size) := by omega
        have hneg3 : ¬ (w3.heap.size = g2) := by omega
        have hneg4 : ¬ (g2 = g) := by have := r5.lt; omega
        clear r5
        replace x := carry k6 hne0 x
        replace z := carry k6 hne1 z
        replace l := carry k6 hneG l
        replace K4 := grown_trans K4 k6
        have hs6 := Nat.lt_of_lt_of_le hs5 k6.size
        clear k6 hs5
        have hnl0 : ¬ (w.heap.size = w3.heap.size) := by omega
        have hnl1 : ¬ (w.heap.size + 1 = w3.heap.size) := by omega
        have hnl2 : ¬ (w3.heap.size = w.heap.size) := by omega
        have hnl3 : ¬ (w3.heap.size = w.heap.size + 1) := by omega
        have cx := cell_of_block x
        have fx := unfrozen_of_block x
        have lx := lt_of_block x
        have cz := cell_of_block z
        have fz := unfrozen_of_block z
        have lz := lt_of_block z
        have cl := cell_of_block l
        have fl := unfrozen_of_block l
        have ll := lt_of_block l
        have cp := cell_of_block p
        have fp := unfrozen_of_block p
        have lp := lt_of_block p
        go_upto_region 14 with fail
        obtain ⟨A1, hV_, sV, lV, oV, kV⟩ := stored1 wc w3.heap.size 2 (.int .i64 v.v) l
        rw [← hV_]
        clear hV_
        clear cx fx lx cz fz lz cl fl ll cp fp lp
        replace x := (oV _ hnl0).trans x
        replace z := (oV _ hnl1).trans z
        replace p := (oV _ hneg2).trans p
        have l2 : A1.heap[w3.heap.size]? = some (.cells #[.int .i64 m.k, .int .i64 m.f, .int .i64 v.v, .int .i64 m.s, .int .i64 m.r.c, .int .i64 m.r.n, .int .i64 m.r.o, .int .i64 m.r.x, .int .i64 m.r.y, .slice a m.cl.length c, .slice b m.vs.length d] 34 (0, 0)) := by simpa using lV
        replace r6 := r6.below (kV.mono (by omega))
        replace K4 := grown_bel K4 kV
        replace hs6 : w3.heap.size < A1.heap.size := by omega
        clear kV oV sV l lV
        have l := l2
        clear l2
        have cx := cell_of_block x
        have fx := unfrozen_of_block x
        have lx := lt_of_block x
        have cz := cell_of_block z
        have fz := unfrozen_of_block z
        have lz := lt_of_block z
        have cl := cell_of_block l
        have fl := unfrozen_of_block l
        have ll := lt_of_block l
        have cp := cell_of_block p
        have fp := unfrozen_of_block p
        have lp := lt_of_block p
        go_upto_region 15 with fail
        obtain ⟨A2, hV_, sV, lV, oV, kV⟩ := stored1 A1 w3.heap.size 3 (.int .i64 v.s) l
        rw [← hV_]
        clear hV_
        clear cx fx lx cz fz lz cl fl ll cp fp lp
        replace x := (oV _ hnl0).trans x
        replace z := (oV _ hnl1).trans z
        replace p := (oV _ hneg2).trans p
        have l2 : A2.heap[w3.heap.size]? = some (.cells #[.int .i64 m.k, .int .i64 m.f, .int .i64 v.v, .int .i64 v.s, .int .i64 m.r.c, .int .i64 m.r.n, .int .i64 m.r.o, .int .i64 m.r.x, .int .i64 m.r.y, .slice a m.cl.length c, .slice b m.vs.length d] 34 (0, 0)) := by simpa using lV
        replace r6 := r6.below (kV.mono (by omega))
        replace K4 := grown_bel K4 kV
        replace hs6 : w3.heap.size < A2.heap.size := by omega
        clear kV oV sV l lV
        have l := l2
        clear l2
        have cx := cell_of_block x
        have fx := unfrozen_of_block x
        have lx := lt_of_block x
        have cz := cell_of_block z
        have fz := unfrozen_of_block z
        have lz := lt_of_block z
        have cl := cell_of_block l
        have fl := unfrozen_of_block l
        have ll := lt_of_block l
        have cp := cell_of_block p
        have fp := unfrozen_of_block p
        have lp := lt_of_block p
        go_upto_region 16 with fail
        obtain ⟨A3, hV_, sV, lV, oV, kV⟩ := stored5of11 A2 w3.heap.size _ _ _ _ _ _ _ _ _ _ _ (.int .i64 v.r.c) (.int .i64 v.r.n) (.int .i64 v.r.o) (.int .i64 v.r.x) (.int .i64 v.r.y) l
        rw [← hV_]
        clear hV_
        clear cx fx lx cz fz lz cl fl ll cp fp lp
        replace x := (oV _ hnl0).trans x
        replace z := (oV _ hnl1).trans z
        replace p := (oV _ hneg2).trans p
        have l2 : A3.heap[w3.heap.size]? = some (.cells #[.int .i64 m.k, .int .i64 m.f, .int .i64 v.v, .int .i64 v.s, .int .i64 v.r.c, .int .i64 v.r.n, .int .i64 v.r.o, .int .i64 v.r.x, .int .i64 v.r.y, .slice a m.cl.length c, .slice b m.vs.length d] 34 (0, 0)) := by simpa using lV
        replace r6 := r6.below (kV.mono (by omega))
        replace K4 := grown_bel K4 kV
        replace hs6 : w3.heap.size < A3.heap.size := by omega
        clear kV oV sV l lV
        have l := l2
        clear l2
        obtain ⟨p6, hp6⟩ : ∃ q, (m.k == 6) = q := ⟨_, rfl⟩
        cases p6 with
        | false =>
         have KK := grown_trans K K4
         have hR : Rob X1 (Mg.ok · ⟨m.k, m.f, v.v, v.s, v.r, .slice a m.cl.length c, .slice b m.vs.length d, m.cl, m.vs⟩) A3 := (((MOC.out.later2 K4 hg1 (fun b hb hy => hy)))).and (((MOV.out.later2 K4 hg1 (fun b hb hy => hy))))
         have cx := cell_of_block x
         have fx := unfrozen_of_block x
         have lx := lt_of_block x
         have cl := cell_of_block l
         have fl := unfrozen_of_block l
         have ll := lt_of_block l
         go_wp2_with fail
         go_meet
         exact ⟨⟨m.k, m.f, v.v, v.s, v.r, .slice a m.cl.length c, .slice b m.vs.length d, m.cl, m.vs⟩, a, b, c, d, l, rfl, rfl, MF.out, hR, z, r6.mono (by omega), KK⟩
        | true =>
         have cx := cell_of_block x
         have fx := unfrozen_of_block x
         have lx := lt_of_block x
         have cz := cell_of_block z
         have fz := unfrozen_of_block z
         have lz := lt_of_block z
         have cl := cell_of_block l
         have fl := unfrozen_of_block l
         have ll := lt_of_block l
         have cp := cell_of_block p
         have fp := unfrozen_of_block p
         have lp := lt_of_block p
         go_wp2_with fail
         refine (l20Real_c (Bx X1 w3.heap.size (w3.heap.size + 1)) T D u v.v A3 g _ r6 (by omega) (HXK.out A3 (grown_trans K K4) _ (fun b hb hy => hy.elim (hlow b hb) (fun h2 => absurd h2.1 (by omega)))) HF.out (.inl hg1) (fun b hb => hb.elim (fun h2 => by have := hlt b h2; omega) (fun h2 => by omega))).mono ?_
         rintro e B1 ⟨a3, c3, vs, rfl, hv3, hvf, hvr, r7, k7⟩
         clear cx fx lx cz fz lz cl fl ll cp fp lp
         have VR := Lib.hid hvr
         have VF := Lib.hid hvf
         clear hvr hvf r6
         replace x := carry k7 hne0 x
         replace z := carry k7 hne1 z
         replace l := carry k7 hneG l
         replace K4 := grown_trans K4 k7
         have hs7 := Nat.lt_of_lt_of_le hs6 k7.size
         clear k7 p hs6
         have cx := cell_of_block x
         have fx := unfrozen_of_block x
         have lx := lt_of_block x
         have cz := cell_of_block z
         have fz := unfrozen_of_block z
         have lz := lt_of_block z
         have cl := cell_of_block l
         have fl := unfrozen_of_block l
         have ll := lt_of_block l
         go_upto_region 18 with fail
         obtain ⟨B2, hV_, sV, lV, oV, kV⟩ := stored1 B1 w3.heap.size 10 (.slice a3 vs.length c3) l
         rw [← hV_]
         clear hV_
         clear cx fx lx cz fz lz cl fl ll
         replace x := (oV _ hnl0).trans x
         replace z := (oV _ hnl1).trans z
         have l2 : B2.heap[w3.heap.size]? = some (.cells #[.int .i64 m.k, .int .i64 m.f, .int .i64 v.v, .int .i64 v.s, .int .i64 v.r.c, .int .i64 v.r.n, .int .i64 v.r.o, .int .i64 v.r.x, .int .i64 v.r.y, .slice a m.cl.length c, .slice a3 vs.length c3] 34 (0, 0)) := by simpa using lV
         replace VR := Lib.hid ((VR.out.stored sV oV (.inr ⟨Nat.le_refl _, Nat.lt_succ_self _⟩)).weak (X' := X1) (fun b hb => .inl hb))
         replace r7 := r7.below (kV.mono (by omega))
         replace K4 := grown_bel K4 kV
         have hs8 : w3.heap.size < B2.heap.size := by omega
         clear kV oV sV l lV
         have l := l2
         clear l2
         have KK := grown_trans K K4
         have hR : Rob X1 (Mg.ok · ⟨m.k, m.f, v.v, v.s, v.r, .slice a m.cl.length c, .slice a3 vs.length c3, m.cl, vs⟩) B2 := (((MOC.out.later2 K4 hg1 (fun b hb hy => hy)))).and (VR.out)
         have cx := cell_of_block x
         have fx := unfrozen_of_block x
         have lx := lt_of_block x
         have cl := cell_of_block l
         have fl := unfrozen_of_block l
         have ll := lt_of_block l
         go_wp2_with fail
         go_meet
         exact ⟨⟨m.k, m.f, v.v, v.s, v.r, .slice a m.cl.length c, .slice a3 vs.length c3, m.cl, vs⟩, a, a3, c, c3, l, rfl, rfl, ⟨MF.out.1, VF.out⟩, hR, z, r7.mono (by omega), KK⟩
 ·
  have n0 : (v2 == 0) = false := by simp; omega
  have n1 : (v2 == 1) = false := by simp; omega
  have n2 : (v2 == 2) = false := by simp; omega
  have n3 : (v2 == 3) = false := by simp; omega
  have n4 : (v2 == 4) = false := by simp; omega
  obtain ⟨q1, hq1⟩ : ∃ q, decide ((12 : Int) < (u.sd.length : Int)) = q := ⟨_, rfl⟩
  have cx := cell_of_block x
  have fx := unfrozen_of_block x
  have lx := lt_of_block x
  have cz := cell_of_block z
  have fz := unfrozen_of_block z
  have lz := lt_of_block z
  cases q1 with
  | false =>
   go_wp2_with fail
   refine (pick_c _ g (P + 1 + 1) ((u.sd.length : Int) + 1) rv2 (by omega) (by omega)).mono ?_
   rintro e w3 ⟨v3, rfl, av3, bv3, -, rv3, kv3⟩
   replace bv3 := bv3 (by omega)
   clear cx fx lx cz fz lz
   replace x := carry kv3 hne0 x
   replace z := carry kv3 hne1 z
   have hsv3 : W.heap.size ≤ w3.heap.size := Nat.le_trans hsv2 kv3.size
   replace K := grown_trans K kv3
   clear kv3 rv2
   
   have KK := K
   have cx := cell_of_block x
   have fx := unfrozen_of_block x
   have lx := lt_of_block x
   have cz := cell_of_block z
   have fz := unfrozen_of_block z
   have lz := lt_of_block z
   go_wp2_with fail
   refine bodyPost_ret (v := .agg #[.int .i64 2, .int .i64 v3, .int .i64 v1, .int .i64 0, .int .i64 0, .int .i64 0, .int .i64 0, .int .i64 0, .int .i64 0, .int .i64 0, .int .i64 0, .int .i64 0, .slice none 0 0, .slice none 0 0]) (by simp [results, Try.results82, go_sem, cz]) rfl ?_
   exact ⟨2, v3, v1, plainM 0 0 0 0 ⟨0, 0, 0, 0, 0⟩, none, none, 0, 0, rfl, rfl, rfl, plainM_fit _ _ _ _ _, fun V' _ => plainM_ok V' _ _ _ _ _, (rv3.below (by repeat' (first | with_reducible exact Below.refl _ _ | with_reducible assumption | with_reducible refine Below.alloc ?_ ?_ _ | with_reducible refine Below.drew ?_ | with_reducible refine Below.setCell ?_ ?_ _ | omega | (simp; omega) | (simp; done)))).mono (by omega), by repeat (first | with_reducible exact KK | with_reducible refine grown_alloc ?_ _ | with_reducible refine grown_setCell ?_ (.inr (by simp; try omega)) _)⟩
  | true =>
   have h12 : 12 < u.sd.length := by have := of_decide_eq_true hq1; omega
   go_wp2_with fail
   refine (pick_c _ g (P + 1 + 1) 3 rv2 (by omega) (by omega)).mono ?_
   rintro e w3 ⟨v3, rfl, av3, bv3, -, rv3, kv3⟩
   replace bv3 := bv3 (by omega)
   clear cx fx lx cz fz lz
   replace x := carry kv3 hne0 x
   replace z := carry kv3 hne1 z
   have hsv3 : W.heap.size ≤ w3.heap.size := Nat.le_trans hsv2 kv3.size
   replace K := grown_trans K kv3
   clear kv3 rv2
   
   obtain ⟨q2, hq2⟩ : ∃ q, decide ((0 : Int) < v3) = q := ⟨_, rfl⟩
   have cx := cell_of_block x
   have fx := unfrozen_of_block x
   have lx := lt_of_block x
   have cz := cell_of_block z
   have fz := unfrozen_of_block z
   have lz := lt_of_block z
   cases q2 with
   | false =>
    go_wp2_with fail
    refine (pick_c _ g (P + 1 + 1 + 1) ((u.sd.length : Int) + 1) rv3 (by omega) (by omega)).mono ?_
    rintro e w4 ⟨v4, rfl, av4, bv4, -, rv4, kv4⟩
    replace bv4 := bv4 (by omega)
    clear cx fx lx cz fz lz
    replace x := carry kv4 hne0 x
    replace z := carry kv4 hne1 z
    have hsv4 : W.heap.size ≤ w4.heap.size := Nat.le_trans hsv3 kv4.size
    replace K := grown_trans K kv4
    clear kv4 rv3
    
    have KK := K
    have cx := cell_of_block x
    have fx := unfrozen_of_block x
    have lx := lt_of_block x
    have cz := cell_of_block z
    have fz := unfrozen_of_block z
    have lz := lt_of_block z
    go_wp2_with fail
    refine bodyPost_ret (v := .agg #[.int .i64 2, .int .i64 v4, .int .i64 v1, .int .i64 0, .int .i64 0, .int .i64 0, .int .i64 0, .int .i64 0, .int .i64 0, .int .i64 0, .int .i64 0, .int .i64 0, .slice none 0 0, .slice none 0 0]) (by simp [results, Try.results82, go_sem, cz]) rfl ?_
    exact ⟨2, v4, v1, plainM 0 0 0 0 ⟨0, 0, 0, 0, 0⟩, none, none, 0, 0, rfl, rfl, rfl, plainM_fit _ _ _ _ _, fun V' _ => plainM_ok V' _ _ _ _ _, (rv4.below (by repeat' (first | with_reducible exact Below.refl _ _ | with_reducible assumption | with_reducible refine Below.alloc ?_ ?_ _ | with_reducible refine Below.drew ?_ | with_reducible refine Below.setCell ?_ ?_ _ | omega | (simp; omega) | (simp; done)))).mono (by omega), by repeat (first | with_reducible exact KK | with_reducible refine grown_alloc ?_ _ | with_reducible refine grown_setCell ?_ (.inr (by simp; try omega)) _)⟩
   | true =>
    go_wp2_with fail
    refine (pick_c _ g (P + 1 + 1 + 1) 12 rv3 (by omega) (by omega)).mono ?_
    rintro e w4 ⟨v4, rfl, av4, bv4, -, rv4, kv4⟩
    replace bv4 := bv4 (by omega)
    clear cx fx lx cz fz lz
    replace x := carry kv4 hne0 x
    replace z := carry kv4 hne1 z
    have hsv4 : W.heap.size ≤ w4.heap.size := Nat.le_trans hsv3 kv4.size
    replace K := grown_trans K kv4
    clear kv4 rv3
    
    have KK := K
    have cx := cell_of_block x
    have fx := unfrozen_of_block x
    have lx := lt_of_block x
    have cz := cell_of_block z
    have fz := unfrozen_of_block z
    have lz := lt_of_block z
    go_wp2_with fail
    refine bodyPost_ret (v := .agg #[.int .i64 2, .int .i64 ((u.sd.length : Int) - 1 - v4), .int .i64 v1, .int .i64 0, .int .i64 0, .int .i64 0, .int .i64 0, .int .i64 0, .int .i64 0, .int .i64 0, .int .i64 0, .int .i64 0, .slice none 0 0, .slice none 0 0]) (by simp [results, Try.results82, go_sem, cz]) rfl ?_
    exact ⟨2, ((u.sd.length : Int) - 1 - v4), v1, plainM 0 0 0 0 ⟨0, 0, 0, 0, 0⟩, none, none, 0, 0, rfl, rfl, rfl, plainM_fit _ _ _ _ _, fun V' _ => plainM_ok V' _ _ _ _ _, (rv4.below (by repeat' (first | with_reducible exact Below.refl _ _ | with_reducible assumption | with_reducible refine Below.alloc ?_ ?_ _ | with_reducible refine Below.drew ?_ | with_reducible refine Below.setCell ?_ ?_ _ | omega | (simp; omega) | (simp; done)))).mono (by omega), by repeat (first | with_reducible exact KK | with_reducible refine grown_alloc ?_ _ | with_reducible refine grown_setCell ?_ (.inr (by simp; try omega)) _)⟩
end Go.Proofs.Ytgdhieffjflejaa
