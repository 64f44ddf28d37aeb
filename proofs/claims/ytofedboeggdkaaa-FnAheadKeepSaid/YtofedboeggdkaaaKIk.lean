/- The program's AheadGame and AheadSure; condition: small sizes. | The reference's AheadGame and AheadSure; condition: small sizes. | AheadCodes, the program's and the reference's; condition: small sizes. | The draw of what is done ahead (l20Ahead): two rows of asks and a number; condition: fewer than 2^40 reads. | What is done ahead, drawn of a code (DrawAheadGame, DrawAheadSure, DrawAheadCodes, DrawAheadPush, DrawAheadKeep): two rows of its own, and an ask; no condition but a code of bytes. | Contract of wpAhead: two that are alike are found alike; appends in guarded operations of a region; no condition. -/
import Derived.Test.YtofedboeggdkaaaKEk
import Derived.Test.YtofedboeggdkaaaKH
import Derived.Test.YtofedboeggdkaaaKA
import Derived.Test.YtofedboeggdkaaaKF
import Derived.Test.YtofedboeggdkaaaKB
set_option linter.unusedSimpArgs false
set_option linter.unusedVariables false
/-! The program's AheadGame and AheadSure; condition: small sizes. -/
namespace Go.Proofs.Ytofedboeggdkaaa
open Go.RowKit Go.Joins

theorem aheadB_good {z : Ah} (h : aheadB z = true) : z.dn.all good = true ∧ z.wt.all good = true ∧ z.dn.length + z.wt.length ≤ 60 := by
  have := (aheadB_iff z).1 h
  exact ⟨this.1, this.2.1, this.2.2.1⟩

theorem gameB_lens4 {z : Gm} (h : gameB z = true) : z.es.length ≤ 4 ∧ z.fl.length = 16 ∧ z.la.length = 4 := by
  have h1 := game_lensG h
  rw [gameB_iff] at h
  exact ⟨ents_le4 h.1, h1⟩

/-- The lists of a game lie apart from block M. -/
def ApartM (M : Nat) (a0 : Option Addr) (c0 : Nat) (a1 : Option Addr) (c1 : Nat) (a2 : Option Addr) (c2 : Nat) : Prop := (∀ g, rowBlk a0 c0 = some g → g ≠ M) ∧ (∀ g, rowBlk a1 c1 = some g → g ≠ M) ∧ (∀ g, rowBlk a2 c2 = some g → g ≠ M)
section
variable {w : World} {B M : Nat} {a0 a1 a2 : Option Addr} {c0 c1 c2 : Nat} {z : Gm}
theorem Own3.apartLow (h : Own3 w B a0 c0 a1 c1 a2 c2 z) (hM : w.heap.size ≤ M) : ApartM M a0 c0 a1 c1 a2 c2 :=
  ⟨fun g hg e => by have := (h.e.blk hg).2; omega, fun g hg e => by have := (h.f.blk hg).2; omega, fun g hg e => by have := (h.l.blk hg).2; omega⟩
theorem Own3.apartHigh (h : Own3 w B a0 c0 a1 c1 a2 c2 z) (hM : M < B) : ApartM M a0 c0 a1 c1 a2 c2 :=
  ⟨fun g hg e => by have := (h.e.blk hg).1; omega, fun g hg e => by have := (h.f.blk hg).1; omega, fun g hg e => by have := (h.l.blk hg).1; omega⟩
theorem Own3.setApart (h : Own3 w B a0 c0 a1 c1 a2 c2 z) (p : ApartM M a0 c0 a1 c1 a2 c2) (i : Nat) (v : Value) : Own3 (w.setCell ⟨M, i, none⟩ v) B a0 c0 a1 c1 a2 c2 z :=
  ⟨h.e.setNe (fun g hg => p.1 g hg) v, h.f.setNe (fun g hg => p.2.1 g hg) v, h.l.setNe (fun g hg => p.2.2 g hg) v, h.ef, h.el, h.fl⟩
theorem Own3.keptM {w' : World} {row : Option Nat} (h : Own3 w B a0 c0 a1 c1 a2 c2 z) (p : ApartM M a0 c0 a1 c1 a2 c2) (k : w.grownBy w' row) (hr : ∀ g, row = some g → g = M) : Own3 w' B a0 c0 a1 c1 a2 c2 z :=
  ⟨h.e.kept k (fun g hg e => p.1 g hg (hr g e)), h.f.kept k (fun g hg e => p.2.1 g hg (hr g e)), h.l.kept k (fun g hg e => p.2.2 g hg (hr g e)), h.ef, h.el, h.fl⟩
end

set_option maxRecDepth 100000 in
set_option maxHeartbeats 8000000 in
theorem AheadSure_c (z : Ah) (a0 a1 : Option Addr) (c0 c1 : Nat) (w : World) (h0 : IsSl w (.slice a0 z.dn.length c0) 5 Rq.cs z.dn) (h1 : IsSl w (.slice a1 z.wt.length c1) 5 Rq.cs z.wt) (hs : z.dn.length + z.wt.length ≤ 1048576) :
    Calls Try.prog 33 #[.agg #[.slice a0 z.dn.length c0, .slice a1 z.wt.length c1, .int .i64 z.bk]] w (GameOwn (sureA z) w) := by
  have H0 := Lib.hid h0
  have H1 := Lib.hid h1
  clear h0 h1
  go_enter Try.func33, Try.ntmps33
  go_upto_region 1 with fail
  obtain ⟨W, hW, sW, aW, rW, kW⟩ := blocks2 w (.cells #[.slice a0 z.dn.length c0, .slice a1 z.wt.length c1, .int .i64 z.bk] 30) (.cells #[.slice none 0 0, .slice none 0 0, .slice none 0 0] 46)
  rw [← hW]
  clear hW sW
  have cA := cell_of_block aW
  have lA := lt_of_block aW
  have RW := Lib.hid rW
  have AW := Lib.hid aW
  have KW := Lib.hid kW
  clear rW kW aW
  go_wp2_with fail
  refine (AheadOk_c z a0 a1 c0 c1 W (H0.out.below KW.out) (H1.out.below KW.out) hs).mono ?_
  rintro e w1 ⟨rfl, k1⟩
  have R1 := Lib.hid (carryN k1 RW.out)
  have A1 := Lib.hid (carryN k1 AW.out)
  have K1 := Lib.hid (below_next KW.out k1)
  have HS1 := Lib.hid (show w.heap.size + 2 ≤ w1.heap.size from by have := lt_of_block RW.out; have := k1.size; omega)
  clear k1 cA lA RW AW KW
  cases hg : aheadB z with
  | false =>
    have HG := Lib.hid hg
    have cR := cell_of_block R1.out
    have fR := unfrozen_of_block R1.out
    have lR := lt_of_block R1.out
    clear hg
    go_wp2_with fail
    refine bodyPost_ret (v := .agg #[.slice none 0 0, .slice none 0 0, .slice none 0 0]) (by simp [results, Try.results33, go_sem, cR]) rfl ?_
    have e : sureA z = emptyG := by unfold sureA; rw [HG.out]; rfl
    rw [e]
    exact ⟨_, rfl, (own3_nil _ _).gm, below_set3 K1.out (Nat.le_succ _) _ _ _⟩
  | true =>
    have HG := Lib.hid (aheadB_good hg)
    have HE := Lib.hid (show sureA z = foldG newG z.dn by unfold sureA; rw [if_pos hg])
    have hsz : w.heap.size + 1 ≤ w1.heap.size := by have := HS1.out; omega
    have cA := cell_of_block A1.out
    have lA := lt_of_block A1.out
    clear hg
    go_wp2_with fail
    refine wp_region_held_drew (S := fun w' => ((∀ b o, b < w.heap.size + 1 → (w').cell? ⟨b, o, none⟩ = (w1).cell? ⟨b, o, none⟩) ∧ Below (w.heap.size + 1) (w1) (w'))) (by kernel_rfl) (KeptB.drew (KeptB.refl _ _)) (fun hHeld => ?_)
    refine wpAnyH_take (i := 1) (oi := _) (v := ?_) (by (simp only [List.getElem?_toArray]; rfl)) (by kernel_rfl) (by kernel_rfl) (by kernel_rfl) (by exact fun _ _ _ h => h) (Or.inl ⟨by rfl, ?_⟩) (by assumption) ?_
    rotate_left
    · intro wS hSw
      go_simp
      all_goals first | with_reducible rfl | rw [if_neg (by omega)]
    simp only [Act.put, List.setIfInBounds_toArray, List.set]
    refine wpAnyH_take (i := 2) (oi := _) (v := ?_) (by (simp only [List.getElem?_toArray]; rfl)) (by kernel_rfl) (by kernel_rfl) (by kernel_rfl) (by exact fun _ _ _ h => h) (Or.inl ⟨by rfl, ?_⟩) (by assumption) ?_
    rotate_left
    · intro wS hSw
      go_simp
      all_goals first | with_reducible rfl | rw [if_neg (by omega)]
    simp only [Act.put, List.setIfInBounds_toArray, List.set]
    have t0 := Lib.hid (KeptB.drew (KeptB.refl w1.heap.size w1))
    clear hHeld
    refine wpAnyH_ready (rs := [0]) (by kernel_rfl) (by simp) ?_
    refine AllReadyH.cons (o := _) (by (simp only [List.getElem?_toArray]; rfl)) (fun K hK => ?_) AllReadyH.nil
    go_simp
    refine (GameNew_c _).mono ?_
    rintro e u1 ⟨f, l, rfl, hf, hl, n3, lf, ll, kk⟩
    have t1 := Lib.hid (KeptB.next (Nat.le_refl _) t0.out kk)
    have hsu := t0.out.2.size
    have O1 := Lib.hid (own3_new (B := w.heap.size) hf hl n3 (by omega) (by omega))
    clear kk hf hl n3 lf ll hsu
    refine hK.out _ _ (KeptB.weak t1.out hsz) (fun hHeld => ?_)
    clear hK K
    try simp only [Act.put, List.setIfInBounds_toArray, List.set]
    clear hHeld
    refine wpAnyH_ready (rs := [3]) (by kernel_rfl) (by simp) ?_
    refine AllReadyH.cons (o := _) (by (simp only [List.getElem?_toArray]; rfl)) (fun K hK => ?_) AllReadyH.nil
    go_simp
    refine (played_c (B := w.heap.size) newG _ _ z.dn _ O1.out.gm (by have := t1.out.2.size; omega) (H0.out.below (below_next K1.out t1.out.2)) newG_ok HG.out.1).mono ?_
    rintro e u2 ⟨v, rfl, ov, kk⟩
    obtain ⟨e0, f0, e1, f1, e2, f2, rfl, o2⟩ := ov.rows
    have t2 := Lib.hid (KeptB.next (Nat.le_refl _) t1.out kk)
    have O2 := Lib.hid o2
    have R2 := Lib.hid (carryN t2.out.2 R1.out)
    clear ov o2 kk
    refine hK.out _ _ (KeptB.weak t2.out hsz) (fun hHeld => ?_)
    clear hK K
    try simp only [Act.put, List.setIfInBounds_toArray, List.set]
    clear hHeld
    have cR := cell_of_block R2.out
    have fR := unfrozen_of_block R2.out
    have lR := lt_of_block R2.out
    refine wpAnyH_ready (rs := [4]) (by kernel_rfl) (by simp) ?_
    refine AllReadyH.cons (o := _) (by (simp only [List.getElem?_toArray]; rfl)) (fun K hK => ?_) AllReadyH.nil
    go_simp
    refine hK.out _ _ (KeptB.set (by simp) _ (KeptB.set (by simp) _ (KeptB.set (by simp) _ (KeptB.weak t2.out hsz)))) (fun hHeld => ?_)
    clear hK K
    try simp only [Act.put, List.setIfInBounds_toArray, List.set]
    refine wpAnyH_done (by kernel_rfl) ?_ _
    clear hHeld
    go_wp2_with fail
    refine bodyPost_ret (v := .agg #[.slice e0 (foldG newG z.dn).es.length f0, .slice e1 (foldG newG z.dn).fl.length f1, .slice e2 (foldG newG z.dn).la.length f2]) (by simp [results, Try.results33, go_sem, cR]) rfl ?_
    rw [HE.out]
    exact ⟨_, rfl, (O2.out.set3 R2.out _ _ _).gm, below_set3 (below_next K1.out t2.out.2) (Nat.le_succ _) _ _ _⟩

set_option maxRecDepth 100000 in
set_option maxHeartbeats 8000000 in
theorem AheadGame_c (z : Ah) (a0 a1 : Option Addr) (c0 c1 : Nat) (w : World) (h0 : IsSl w (.slice a0 z.dn.length c0) 5 Rq.cs z.dn) (h1 : IsSl w (.slice a1 z.wt.length c1) 5 Rq.cs z.wt) (hs : z.dn.length + z.wt.length ≤ 1048576) :
    Calls Try.prog 30 #[.agg #[.slice a0 z.dn.length c0, .slice a1 z.wt.length c1, .int .i64 z.bk]] w (GameOwn (gameA z) w) := by
  have H0 := Lib.hid h0
  have H1 := Lib.hid h1
  clear h0 h1
  go_enter Try.func30, Try.ntmps30
  go_upto_region 1 with fail
  obtain ⟨W, hW, sW, aW, rW, kW⟩ := blocks2 w (.cells #[.slice a0 z.dn.length c0, .slice a1 z.wt.length c1, .int .i64 z.bk] 30) (.cells #[.slice none 0 0, .slice none 0 0, .slice none 0 0] 46)
  rw [← hW]
  clear hW sW
  have cA := cell_of_block aW
  have lA := lt_of_block aW
  have RW := Lib.hid rW
  have AW := Lib.hid aW
  have KW := Lib.hid kW
  clear rW kW aW
  go_wp2_with fail
  refine (AheadOk_c z a0 a1 c0 c1 W (H0.out.below KW.out) (H1.out.below KW.out) hs).mono ?_
  rintro e w1 ⟨rfl, k1⟩
  have R1 := Lib.hid (carryN k1 RW.out)
  have A1 := Lib.hid (carryN k1 AW.out)
  have K1 := Lib.hid (below_next KW.out k1)
  have HS1 := Lib.hid (show w.heap.size + 2 ≤ w1.heap.size from by have := lt_of_block RW.out; have := k1.size; omega)
  clear k1 cA lA RW AW KW
  cases hg : aheadB z with
  | false =>
    have HG := Lib.hid hg
    have cR := cell_of_block R1.out
    have fR := unfrozen_of_block R1.out
    have lR := lt_of_block R1.out
    clear hg
    go_wp2_with fail
    refine bodyPost_ret (v := .agg #[.slice none 0 0, .slice none 0 0, .slice none 0 0]) (by simp [results, Try.results30, go_sem, cR]) rfl ?_
    have e : gameA z = emptyG := by unfold gameA; rw [HG.out]; rfl
    rw [e]
    exact ⟨_, rfl, (own3_nil _ _).gm, below_set3 K1.out (Nat.le_succ _) _ _ _⟩
  | true =>
    have HG := Lib.hid (aheadB_good hg)
    have HE := Lib.hid (show gameA z = foldG (foldG newG z.dn) z.wt by unfold gameA; rw [if_pos hg, foldG_append])
    have hsz : w.heap.size + 1 ≤ w1.heap.size := by have := HS1.out; omega
    have cA := cell_of_block A1.out
    have lA := lt_of_block A1.out
    clear hg
    go_wp2_with fail
    refine wp_region_held_drew (S := fun w' => ((∀ b o, b < w.heap.size + 1 → (w').cell? ⟨b, o, none⟩ = (w1).cell? ⟨b, o, none⟩) ∧ Below (w.heap.size + 1) (w1) (w'))) (by kernel_rfl) (KeptB.drew (KeptB.refl _ _)) (fun hHeld => ?_)
    refine wpAnyH_take (i := 1) (oi := _) (v := ?_) (by (simp only [List.getElem?_toArray]; rfl)) (by kernel_rfl) (by kernel_rfl) (by kernel_rfl) (by exact fun _ _ _ h => h) (Or.inl ⟨by rfl, ?_⟩) (by assumption) ?_
    rotate_left
    · intro wS hSw
      go_simp
      all_goals first | with_reducible rfl | rw [if_neg (by omega)]
    simp only [Act.put, List.setIfInBounds_toArray, List.set]
    refine wpAnyH_take (i := 2) (oi := _) (v := ?_) (by (simp only [List.getElem?_toArray]; rfl)) (by kernel_rfl) (by kernel_rfl) (by kernel_rfl) (by exact fun _ _ _ h => h) (Or.inl ⟨by rfl, ?_⟩) (by assumption) ?_
    rotate_left
    · intro wS hSw
      go_simp
      all_goals first | with_reducible rfl | rw [if_neg (by omega)]
    simp only [Act.put, List.setIfInBounds_toArray, List.set]
    refine wpAnyH_take (i := 4) (oi := _) (v := ?_) (by (simp only [List.getElem?_toArray]; rfl)) (by kernel_rfl) (by kernel_rfl) (by kernel_rfl) (by exact fun _ _ _ h => h) (Or.inl ⟨by rfl, ?_⟩) (by assumption) ?_
    rotate_left
    · intro wS hSw
      go_simp
      all_goals first | with_reducible rfl | rw [if_neg (by omega)]
    simp only [Act.put, List.setIfInBounds_toArray, List.set]
    refine wpAnyH_take (i := 5) (oi := _) (v := ?_) (by (simp only [List.getElem?_toArray]; rfl)) (by kernel_rfl) (by kernel_rfl) (by kernel_rfl) (by exact fun _ _ _ h => h) (Or.inl ⟨by rfl, ?_⟩) (by assumption) ?_
    rotate_left
    · intro wS hSw
      go_simp
      all_goals first | with_reducible rfl | rw [if_neg (by omega)]
    simp only [Act.put, List.setIfInBounds_toArray, List.set]
    have t0 := Lib.hid (KeptB.drew (KeptB.refl w1.heap.size w1))
    clear hHeld
    refine wpAnyH_ready (rs := [0]) (by kernel_rfl) (by simp) ?_
    refine AllReadyH.cons (o := _) (by (simp only [List.getElem?_toArray]; rfl)) (fun K hK => ?_) AllReadyH.nil
    go_simp
    refine (GameNew_c _).mono ?_
    rintro e u1 ⟨f, l, rfl, hf, hl, n3, lf, ll, kk⟩
    have t1 := Lib.hid (KeptB.next (Nat.le_refl _) t0.out kk)
    have hsu := t0.out.2.size
    have O1 := Lib.hid (own3_new (B := w.heap.size) hf hl n3 (by omega) (by omega))
    clear kk hf hl n3 lf ll hsu
    refine hK.out _ _ (KeptB.weak t1.out hsz) (fun hHeld => ?_)
    clear hK K
    try simp only [Act.put, List.setIfInBounds_toArray, List.set]
    clear hHeld
    refine wpAnyH_ready (rs := [3]) (by kernel_rfl) (by simp) ?_
    refine AllReadyH.cons (o := _) (by (simp only [List.getElem?_toArray]; rfl)) (fun K hK => ?_) AllReadyH.nil
    go_simp
    refine (played_c (B := w.heap.size) newG _ _ z.dn _ O1.out.gm (by have := t1.out.2.size; omega) (H0.out.below (below_next K1.out t1.out.2)) newG_ok HG.out.1).mono ?_
    rintro e u2 ⟨v, rfl, ov, kk⟩
    obtain ⟨e0, f0, e1, f1, e2, f2, rfl, o2⟩ := ov.rows
    have t2 := Lib.hid (KeptB.next (Nat.le_refl _) t1.out kk)
    have O2 := Lib.hid o2
    clear ov o2 kk
    refine hK.out _ _ (KeptB.weak t2.out hsz) (fun hHeld => ?_)
    clear hK K
    try simp only [Act.put, List.setIfInBounds_toArray, List.set]
    clear hHeld
    refine wpAnyH_ready (rs := [6]) (by kernel_rfl) (by simp) ?_
    refine AllReadyH.cons (o := _) (by (simp only [List.getElem?_toArray]; rfl)) (fun K hK => ?_) AllReadyH.nil
    go_simp
    refine (played_c (B := w.heap.size) (foldG newG z.dn) _ _ z.wt _ O2.out.gm (by have := t2.out.2.size; omega) (H1.out.below (below_next K1.out t2.out.2)) (foldG_new_ok HG.out.1) HG.out.2.1).mono ?_
    rintro e u3 ⟨v, rfl, ov, kk⟩
    obtain ⟨j0, l0, j1, l1, j2, l2, rfl, o3⟩ := ov.rows
    have t3 := Lib.hid (KeptB.next (Nat.le_refl _) t2.out kk)
    have O3 := Lib.hid o3
    have R3 := Lib.hid (carryN t3.out.2 R1.out)
    clear ov o3 kk
    obtain ⟨y, hy⟩ : ∃ y, y = foldG (foldG newG z.dn) z.wt := ⟨_, rfl⟩
    rw [← hy] at O3 HE ⊢
    refine hK.out _ _ (KeptB.weak t3.out hsz) (fun hHeld => ?_)
    clear hK K
    try simp only [Act.put, List.setIfInBounds_toArray, List.set]
    clear hHeld hy
    have cR := cell_of_block R3.out
    have fR := unfrozen_of_block R3.out
    have lR := lt_of_block R3.out
    refine wpAnyH_ready (rs := [7]) (by kernel_rfl) (by simp) ?_
    refine AllReadyH.cons (o := _) (by (simp only [List.getElem?_toArray]; rfl)) (fun K hK => ?_) AllReadyH.nil
    go_simp
    refine hK.out _ _ (KeptB.set (by simp) _ (KeptB.set (by simp) _ (KeptB.set (by simp) _ (KeptB.weak t3.out hsz)))) (fun hHeld => ?_)
    clear hK K
    try simp only [Act.put, List.setIfInBounds_toArray, List.set]
    refine wpAnyH_done (by kernel_rfl) ?_ _
    clear hHeld
    go_wp2_with fail
    refine bodyPost_ret (v := .agg #[.slice j0 y.es.length l0, .slice j1 y.fl.length l1, .slice j2 y.la.length l2]) (by simp [results, Try.results30, go_sem, cR]) rfl ?_
    rw [HE.out]
    exact ⟨_, rfl, (O3.out.set3 R3.out _ _ _).gm, below_set3 (below_next K1.out t3.out.2) (Nat.le_succ _) _ _ _⟩
end Go.Proofs.Ytofedboeggdkaaa

/-! The reference's AheadGame and AheadSure; condition: small sizes. -/
namespace Go.Proofs.Ytofedboeggdkaaa
open Go.RowKit Go.Joins

end Go.Proofs.Ytofedboeggdkaaa

/-! AheadCodes, the program's and the reference's; condition: small sizes. -/
namespace Go.Proofs.Ytofedboeggdkaaa
open Go.RowKit Go.Joins

end Go.Proofs.Ytofedboeggdkaaa

/-! The draw of what is done ahead (l20Ahead): two rows of asks and a number; condition: fewer than 2^40 reads. -/
namespace Go.Proofs.Ytofedboeggdkaaa
open Go.RowKit Go.Joins

theorem grown_setA {a w : World} {g G : Nat} (h : a.grownBy w (some g)) (hG : a.heap.size ≤ G) (x y u : Value) : a.grownBy (((w.setCell ⟨G, 0, none⟩ x).setCell ⟨G, 1, none⟩ y).setCell ⟨G, 2, none⟩ u) (some g) :=
  grown_setCell (grown_setCell (grown_setCell h (.inr hG) x) (.inr hG) y) (.inr hG) u
/-- What is done ahead, drawn: two rows of its own. -/
def AheadGot (w : World) (g Q : Nat) (e : Ending) (w' : World) : Prop :=
  ∃ (z : Ah) (a0 a1 : Option Addr) (c0 c1 : Nat), e = .returned (.agg #[.slice a0 z.dn.length c0, .slice a1 z.wt.length c1, .int .i64 z.bk]) ∧ z.dn.length ≤ 8 ∧ z.wt.length ≤ 5 ∧
    Row w' w.heap.size 34 a0 c0 5 Rq.cs z.dn ∧ Row w' w.heap.size 34 a1 c1 5 Rq.cs z.wt ∧ Rdr w' g Q ∧ w.grownBy w' (some g)
/-- The world in the midst of the draw: the block of what is done ahead (X), its rows, the reader. -/
structure AhMid (w V : World) (g Q X B : Nat) (a0 a1 : Option Addr) (c0 c1 : Nat) (dn wt : List Rq) (bk : Int) : Prop where
  blk : V.heap[X]? = some (.cells #[.slice a0 dn.length c0, .slice a1 wt.length c1, .int .i64 bk] 30 (0, 0))
  dn : Row V B 34 a0 c0 5 Rq.cs dn
  wt : Row V (X + 1) 34 a1 c1 5 Rq.cs wt
  low : ∀ h, rowBlk a0 c0 = some h → h < X
  rdr : Rdr V g Q
  grown : w.grownBy V (some g)
theorem AhMid.read {w V V' : World} {g Q Q' X B : Nat} {a0 a1 : Option Addr} {c0 c1 : Nat} {dn wt : List Rq} {bk : Int} (h : AhMid w V g Q X B a0 a1 c0 c1 dn wt bk) (k : V.grownBy V' (some g)) (r : Rdr V' g Q') (hX : g < X) (hB : g < B) : AhMid w V' g Q' X B a0 a1 c0 c1 dn wt bk :=
  ⟨carry k (by omega) h.blk, h.dn.kept k (fun g' hg' => by have := (h.dn.blk hg').1; intro e; injection e; omega), h.wt.kept k (fun g' hg' => by have := (h.wt.blk hg').1; intro e; injection e; omega), h.low, r, grown_trans h.grown k⟩
theorem AhMid.below {w V V' : World} {g Q X B : Nat} {a0 a1 : Option Addr} {c0 c1 : Nat} {dn wt : List Rq} {bk : Int} (h : AhMid w V g Q X B a0 a1 c0 c1 dn wt bk) (k : Below V.heap.size V V') : AhMid w V' g Q X B a0 a1 c0 c1 dn wt bk :=
  ⟨carryN k h.blk, h.dn.below k, h.wt.below k, h.low, h.rdr.below (k.mono h.rdr.lt), grown_trans h.grown (grown_of_below k _)⟩
/-- An ask appended to what waits: the store behind it. -/
theorem AhMid.app {w V V' : World} {g Q X B : Nat} {a0 a1 a' : Option Addr} {c0 c1 c' n : Nat} {dn wt : List Rq} {r : Rq} {bk : Int} (h : AhMid w V g Q X B a0 a1 c0 c1 dn wt bk) (q : Appended V V' (X + 1) 34 a1 a' c1 c' 5 Rq.cs (wt ++ [r])) (hn : n = wt.length + 1) (hX : g < X) (hw : w.heap.size ≤ X) :
    AhMid w (V'.setCell ⟨X, 1, none⟩ (.slice a' n c')) g Q X B a0 a' c0 c' dn (wt ++ [r]) bk := by
  have hlX := lt_of_block h.blk
  have hb : ∀ b, b < V.heap.size → b < X + 1 → V'.heap[b]? = V.heap[b]? := fun b h1 h2 => q.grown.block b h1 (fun e => by have := (h.wt.blk e.symm).1; omega)
  have hX' : V'.heap[X]? = _ := (hb X hlX (by omega)).trans h.blk
  have hdn : Row V' B 34 a0 c0 5 Rq.cs dn := h.dn.kept q.grown (fun g' hg' e => by have := h.low g' hg'; have := (h.wt.blk e).1; omega)
  have hr : Rdr V' g Q := h.rdr.below ⟨q.grown.os, q.grown.tape, q.grown.output, q.grown.size, fun b hb' => hb b (by have := h.rdr.lt; omega) (by omega)⟩
  refine ⟨?_, hdn.setNe (fun g' hg' => by have := h.low g' hg'; simp only; omega) _, q.row.setOther (by simp) _, h.low, hr.below ?_, ?_⟩
  · rw [block_setCell (i := 1) hX', hn, List.length_append]; rfl
  · exact (Below.refl _ _).setCell (by show g + 1 ≤ X; omega) _
  · exact grown_setCell ⟨q.grown.os.trans h.grown.os, q.grown.tape.trans h.grown.tape, q.grown.output.trans h.grown.output, Nat.le_trans h.grown.size q.grown.size, fun i hi hne => (hb i (Nat.lt_of_lt_of_le hi h.grown.size) (by omega)).trans (h.grown.block i hi hne)⟩ (.inr hw) _
theorem AhMid.setBk {w V : World} {g Q X B : Nat} {a0 a1 : Option Addr} {c0 c1 : Nat} {dn wt : List Rq} {bk : Int} (h : AhMid w V g Q X B a0 a1 c0 c1 dn wt bk) (v : Int) (hX : g < X) (hw : w.heap.size ≤ X) :
    AhMid w (V.setCell ⟨X, 2, none⟩ (.int .i64 v)) g Q X B a0 a1 c0 c1 dn wt v :=
  ⟨by rw [block_setCell (i := 2) h.blk]; rfl, h.dn.setNe (fun g' hg' => by have := h.low g' hg'; simp only; omega) _, h.wt.setOther (by simp) _, h.low, h.rdr.below ((Below.refl _ _).setCell (by show g + 1 ≤ X; omega) _), grown_setCell h.grown (.inr hw) _⟩
/-- The end: what was drawn is laid into the result's block. -/
theorem AhMid.done {w W V : World} {g Q X : Nat} {a0 a1 : Option Addr} {c0 c1 : Nat} {dn wt : List Rq} {bk : Int} (h : AhMid W V g Q X (w.heap.size + 1) a0 a1 c0 c1 dn wt bk) (kW : Below w.heap.size w W) (hg : g < w.heap.size) (hX : w.heap.size < X) (x y u : Value) (h8 : dn.length ≤ 8) (h5 : wt.length ≤ 5) :
    AheadGot w g Q (.returned (.agg #[.slice a0 dn.length c0, .slice a1 wt.length c1, .int .i64 bk])) (((V.setCell ⟨w.heap.size, 0, none⟩ x).setCell ⟨w.heap.size, 1, none⟩ y).setCell ⟨w.heap.size, 2, none⟩ u) := by
  refine ⟨⟨dn, wt, bk⟩, a0, a1, c0, c1, rfl, h8, h5, ?_, ?_, ?_, ?_⟩
  · exact (((h.dn.setOther (by simp) _).setOther (by simp) _).setOther (by simp) _).low (by omega)
  · exact (((h.wt.setOther (by simp; omega) _).setOther (by simp; omega) _).setOther (by simp; omega) _).low (by omega)
  · exact h.rdr.below (((((Below.refl _ _).setCell (by show g + 1 ≤ w.heap.size; omega) _).setCell (by show g + 1 ≤ w.heap.size; omega) _).setCell (by show g + 1 ≤ w.heap.size; omega) _))
  · exact grown_setA (grown_trans (grown_of_below kW _) h.grown) (Nat.le_refl _) x y u

set_option maxRecDepth 100000 in
set_option maxHeartbeats 8000000 in
theorem l20Ahead_c (w : World) (g P : Nat) (hr : Rdr w g P) (hP : P ≤ 1099511590000) :
    Calls Try.prog 78 #[.pointer (some ⟨g, 0, none⟩)] w (AheadGot w g (P + 100)) := by
  have hlt := hr.lt
  go_enter Try.func78, Try.ntmps78
  go_wp2_with fail
  obtain ⟨W, hW, sW, rW, kW⟩ := blocks1 w (.cells #[.slice none 0 0, .slice none 0 0, .int .i64 0] 30)
  rw [← hW]
  clear hW
  refine (l20Reqs_c W g P 8 (hr.below (kW.mono (by omega))) (by omega) (by omega)).mono ?_
  rintro e w1 ⟨rs, a0, c0, rfl, h8, -, hrow, r1, k1⟩
  have hs1 := k1.size
  have HROW := Lib.hid hrow
  have K1 := Lib.hid k1
  clear hrow k1
  go_wp2_with fail
  obtain ⟨w2, hw2, sw2, nB, k2⟩ := blocks1 w1 (.cells #[.int .i64 0, .int .i64 3, .int .i64 99] 3)
  rw [← hw2]
  clear hw2
  refine (one_c w2 g (P + 1 + 7 * 8) w1.heap.size 3 _ [0, 3, 99] _ (r1.below (k2.mono (by omega))) (by omega) (by omega) nB rfl rfl (by decide) (by decide)).mono ?_
  rintro e w3 ⟨bk, -, rfl, r3, k3⟩
  have hs3 := k3.size
  have K3 := Lib.hid (grown_trans K1.out (grown_trans (grown_of_below k2 (some g)) k3))
  have R3 := Lib.hid ((HROW.out.below k2).kept k3 (fun g' hg' => by have := (HROW.out.blk hg').1; intro e; injection e; omega))
  have LW := Lib.hid (fun h hh => Nat.lt_of_lt_of_le (HROW.out.blk (g := h) hh).2 (show w1.heap.size ≤ w3.heap.size by omega))
  clear k2 k3 r1 K1 HROW nB
  go_wp2_with fail
  obtain ⟨w4, hw4, sw4, xB, k4⟩ := blocks1 w3 (.cells #[.slice a0 rs.length c0, .slice none 0 0, .int .i64 bk] 30)
  rw [← hw4]
  clear hw4
  obtain ⟨X, hX⟩ : ∃ X, X = w3.heap.size := ⟨_, rfl⟩
  rw [← hX] at xB LW ⊢
  have hgX : g < X := by omega
  have hwX : w.heap.size < X := by omega
  have HM4 := Lib.hid (AhMid.mk (w := W) (B := w.heap.size + 1) (Q := P + 1 + 7 * 8 + 1) (wt := []) (c1 := 0) xB (by rw [← sW]; exact R3.out.below k4) (Row.nil _ _ _ _ _ _) LW.out (r3.below (k4.mono (by omega))) (grown_trans K3.out (grown_of_below k4 _)))
  clear k4 r3 K3 R3 LW xB
  refine (pick_c w4 g _ 5 HM4.out.rdr (by omega) (by omega)).mono ?_
  rintro e w5 ⟨v, rfl, hv0, hv1, -, r5, k5⟩
  replace hv1 := hv1 (by omega)
  obtain ⟨m0, rfl⟩ := Int.eq_ofNat_of_zero_le hv0
  have hm4 : m0 ≤ 4 := by omega
  have HM5 := Lib.hid (HM4.out.read k5 r5 hgX (by omega))
  have HKW := Lib.hid kW
  have RW := Lib.hid rW
  have HLT := Lib.hid hlt
  have HX := Lib.hid (And.intro hgX hwX)
  have HSW := Lib.hid sW
  clear k5 r5 HM4 hv0 hv1 sw2 sw4 hs1 hs3 hX kW rW hr hlt hgX hwX sW
  go_wp2_with fail
  go_loopw [4] (fun i wr => ∃ (m : Nat) (ws : List Rq) (a1 : Option Addr) (c1 : Nat), i = .int .i64 m ∧ ws.length + m ≤ 4 ∧ AhMid W wr g (P + 1 + 7 * 8 + 1 + 1 + 5 * ws.length) X (w.heap.size + 1) a0 a1 c0 c1 rs ws bk) (fun i _ => (intOf i).toNat)
  case atStart => exact ⟨m0, [], none, 0, rfl, by simpa using hm4, HM5.out⟩
  case round =>
    obtain ⟨m, ws, a1, c1, rfl, hwm, hM⟩ := hrel
    have HM := Lib.hid hM
    have hlx := lt_of_block hM.blk
    clear hM HM5 hm4
    by_cases hm : (m : Int) ≤ 0
    · go_wp2_with fail
      refine (pick_c wr g _ 14 HM.out.rdr (by omega) (by omega)).mono ?_
      rintro e w6 ⟨p, rfl, -, -, -, r6, k6⟩
      have HM6 := Lib.hid (HM.out.read k6 r6 HX.out.1 (by have := HLT.out; omega))
      clear HM k6 r6 hlx
      by_cases hp0 : p = 0
      · subst hp0
        go_wp2_with fail
        obtain ⟨w7, hw7, sw7, nB, k7⟩ := blocks1 w6 (.cells #[.int .i64 (-1), .int .i64 100] 3)
        rw [← hw7]
        clear hw7 sw7
        have hl6 := lt_of_block HM6.out.blk
        refine (one_c w7 g _ w6.heap.size 2 _ [-1, 100] _ (HM6.out.below k7).rdr (by omega) (by have := HX.out.1; omega) nB rfl rfl (by decide) (by decide)).mono ?_
        rintro e w8 ⟨b2, -, rfl, r8, k8⟩
        have HM8 := Lib.hid ((HM6.out.below k7).read k8 r8 HX.out.1 (by have := HLT.out; omega))
        clear k7 k8 r8 nB HM6 hl6
        have cX := cell_of_block HM8.out.blk
        have fX := unfrozen_of_block HM8.out.blk
        have lX := lt_of_block HM8.out.blk
        have bR := carry HM8.out.grown (by have := HLT.out; omega) RW.out
        have cR := cell_of_block bR
        have fR := unfrozen_of_block bR
        have lR := lt_of_block bR
        have HM9 := Lib.hid (HM8.out.setBk b2 HX.out.1 (by rw [HSW.out]; exact HX.out.2))
        clear bR
        have hne : ¬ (w.heap.size = X) := by have := HX.out.2; omega
        have hne' : ¬ (X = w.heap.size) := by have := HX.out.2; omega
        go_wp2_with fail
        refine bodyPost_ret (v := .agg #[.slice a0 rs.length c0, .slice a1 ws.length c1, .int .i64 b2]) (by simp [results, Try.results78, go_sem, cR]) rfl ?_
        obtain ⟨z, b0, b1, d0, d1, h⟩ := HM9.out.done HKW.out HLT.out HX.out.2 (.slice a0 rs.length c0) (.slice a1 ws.length c1) (.int .i64 b2) h8 (by omega)
        exact ⟨z, b0, b1, d0, d1, h.1, h.2.1, h.2.2.1, h.2.2.2.1, h.2.2.2.2.1, h.2.2.2.2.2.1.mono (by omega), h.2.2.2.2.2.2⟩
      · by_cases hp1 : p = 1
        · subst hp1
          go_wp2_with fail
          refine wp_region_held_drew (S := fun _ => True) (by kernel_rfl) trivial (fun hHeld => ?_)
          obtain ⟨wd, hwd, kwd⟩ : ∃ wd, wd = w6.drew ∧ Below w6.heap.size w6 wd := ⟨_, rfl, Below.drew (Below.refl _ _)⟩
          rw [← hwd]
          clear hwd
          have D0 := Lib.hid (HM6.out.below kwd)
          clear kwd hHeld
          have hHeld := True.intro
          refine wpAnyH_take (i := 0) (oi := _) (v := ?_) (by (simp only [List.getElem?_toArray]; rfl)) (by kernel_rfl) (by kernel_rfl) (by kernel_rfl) (by exact fun _ _ _ h => h) (Or.inl ⟨by rfl, ?_⟩) (by assumption) ?_
          rotate_left
          · intro wS hSw
            go_simp
            all_goals first | with_reducible rfl | rw [if_neg (by omega)]
          simp only [Act.put, List.setIfInBounds_toArray, List.set]
          refine wpAnyH_take (i := 2) (oi := _) (v := ?_) (by (simp only [List.getElem?_toArray]; rfl)) (by kernel_rfl) (by kernel_rfl) (by kernel_rfl) (by exact fun _ _ _ h => h) (Or.inl ⟨by rfl, ?_⟩) (by assumption) ?_
          rotate_left
          · intro wS hSw
            go_simp
            all_goals first | with_reducible rfl | rw [if_neg (by omega)]
          simp only [Act.put, List.setIfInBounds_toArray, List.set]
          clear hHeld
          refine wpAnyH_ready (rs := [1, 3]) (by kernel_rfl) (by simp) ?_
          refine AllReadyH.cons (o := _) (by (simp only [List.getElem?_toArray]; rfl)) (fun K hK => ?_) ?_
          · skip
            have cX := cell_of_block D0.out.blk
            have lX := lt_of_block D0.out.blk
            go_simp
            clear cX lX
            refine hK.out _ _ trivial (fun hHeld => ?_)
            clear hK K hHeld
            try simp only [Act.put, List.setIfInBounds_toArray, List.set]
            refine wpAnyH_ready (rs := [3]) (by kernel_rfl) (by simp) ?_
            refine AllReadyH.cons (o := _) (by (simp only [List.getElem?_toArray]; rfl)) (fun K hK => ?_) AllReadyH.nil
            go_simp
            refine (l20AnyReq_c _ g _ D0.out.rdr (by omega)).mono ?_
            rintro e w6c ⟨r, rfl, rc, kc⟩
            have D1 := Lib.hid (D0.out.read kc rc HX.out.1 (by have := HLT.out; omega))
            clear rc kc
            refine hK.out _ _ trivial (fun hHeld => ?_)
            clear hK K hHeld
            try simp only [Act.put, List.setIfInBounds_toArray, List.set]
            refine wpAnyH_ready (rs := [4]) (by kernel_rfl) (by simp) ?_
            refine AllReadyH.cons (o := _) (by (simp only [List.getElem?_toArray]; rfl)) (fun K hK => ?_) AllReadyH.nil
            go_simp
            obtain ⟨V, hV, sV, qB, kV⟩ := blocks1 w6c (.cells #[.int .i64 r.c, .int .i64 r.n, .int .i64 r.o, .int .i64 r.x, .int .i64 r.y] 34)
            have hrv : RowsAt V (some ⟨w6c.heap.size, 0, none⟩) 5 Rq.cs [r] := by rw [hV]; exact rowsAt_req w6c r _
            rw [← hV]
            have HRV := Lib.hid hrv
            have D2 := Lib.hid (D1.out.below kV)
            clear hV sV qB kV hrv
            refine hK.out _ _ trivial (fun hHeld => ?_)
            clear hK K hHeld
            try simp only [Act.put, List.setIfInBounds_toArray, List.set]
            refine wpAnyH_ready (rs := [5]) (by kernel_rfl) (by simp) ?_
            refine AllReadyH.cons (o := _) (by (simp only [List.getElem?_toArray]; rfl)) (fun K hK => ?_) AllReadyH.nil
            refine step_append_elt (by rfl) (.tmp 35) (.tmp 38) (by rfl) (ws.length + 1) eltReq (by rfl) (by rfl) D2.out.wt HRV.out rfl rfl rfl (by simp only [maxLen]; omega) (by omega) (by exact lt_of_block D2.out.blk) ?_
            intro a5 c5 w9 q9
            have MA := Lib.hid (D2.out.app q9 rfl HX.out.1 (by rw [HSW.out]; exact HX.out.2))
            have BX := Lib.hid ((q9.grown.block X (lt_of_block D2.out.blk) (fun e => by have := (D2.out.wt.blk e.symm).1; omega)).trans D2.out.blk)
            clear q9 HRV D2
            refine hK.out _ _ trivial (fun hHeld => ?_)
            clear hK K hHeld
            try simp only [Act.put, List.setIfInBounds_toArray, List.set]
            have hHeld := True.intro
            refine wpAnyH_take (i := 6) (oi := _) (v := ?_) (by (simp only [List.getElem?_toArray]; rfl)) (by kernel_rfl) (by kernel_rfl) (by kernel_rfl) (by exact fun _ _ _ h => h) (Or.inl ⟨by rfl, ?_⟩) (by assumption) ?_
            rotate_left
            · intro wS hSw
              go_simp
              all_goals first | with_reducible rfl | rw [if_neg (by omega)]
            simp only [Act.put, List.setIfInBounds_toArray, List.set]
            clear hHeld
            have cX := cell_of_block BX.out
            have fX := unfrozen_of_block BX.out
            have lX := lt_of_block BX.out
            refine wpAnyH_ready (rs := [7]) (by kernel_rfl) (by simp) ?_
            refine AllReadyH.cons (o := _) (by (simp only [List.getElem?_toArray]; rfl)) (fun K hK => ?_) AllReadyH.nil
            go_simp
            refine hK.out _ _ trivial (fun hHeld => ?_)
            clear hK K
            try simp only [Act.put, List.setIfInBounds_toArray, List.set]
            refine wpAnyH_done (by kernel_rfl) ?_ _
            have bR := carry MA.out.grown (by have := HLT.out; omega) RW.out
            have cR := cell_of_block bR
            have fR := unfrozen_of_block bR
            have lR := lt_of_block bR
            clear bR cX fX lX
            obtain ⟨U, hU⟩ : ∃ U, U = w9.setCell ⟨X, 1, none⟩ (.slice a5 (ws.length + 1) c5) := ⟨_, rfl⟩
            rw [← hU] at MA cR fR lR ⊢
            have cX := cell_of_block MA.out.blk
            have lX := lt_of_block MA.out.blk
            have HLA := Lib.hid (show (ws ++ [r]).length = ws.length + 1 by simp)
            rw [HLA.out] at cX
            clear hU
            go_wp2_with fail
            refine bodyPost_ret (v := .agg #[.slice a0 rs.length c0, .slice a5 (ws.length + 1) c5, .int .i64 bk]) (by simp [results, Try.results78, go_sem, cR]) rfl ?_
            obtain ⟨z, b0, b1, d0, d1, h⟩ := MA.out.done HKW.out HLT.out HX.out.2 (.slice a0 rs.length c0) (.slice a5 (ws.length + 1) c5) (.int .i64 bk) h8 (by rw [HLA.out]; omega)
            rw [HLA.out] at h
            exact ⟨z, b0, b1, d0, d1, h.1, h.2.1, h.2.2.1, h.2.2.2.1, h.2.2.2.2.1, h.2.2.2.2.2.1.mono (by omega), h.2.2.2.2.2.2⟩
          refine AllReadyH.cons (o := _) (by (simp only [List.getElem?_toArray]; rfl)) (fun K hK => ?_) ?_
          · skip
            go_simp
            refine (l20AnyReq_c _ g _ D0.out.rdr (by omega)).mono ?_
            rintro e w6c ⟨r, rfl, rc, kc⟩
            have D1 := Lib.hid (D0.out.read kc rc HX.out.1 (by have := HLT.out; omega))
            clear rc kc
            refine hK.out _ _ trivial (fun hHeld => ?_)
            clear hK K hHeld
            try simp only [Act.put, List.setIfInBounds_toArray, List.set]
            refine wpAnyH_ready (rs := [1, 4]) (by kernel_rfl) (by simp) ?_
            refine AllReadyH.cons (o := _) (by (simp only [List.getElem?_toArray]; rfl)) (fun K hK => ?_) ?_
            · skip
              have cX := cell_of_block D1.out.blk
              have lX := lt_of_block D1.out.blk
              go_simp
              clear cX lX
              refine hK.out _ _ trivial (fun hHeld => ?_)
              clear hK K hHeld
              try simp only [Act.put, List.setIfInBounds_toArray, List.set]
              refine wpAnyH_ready (rs := [4]) (by kernel_rfl) (by simp) ?_
              refine AllReadyH.cons (o := _) (by (simp only [List.getElem?_toArray]; rfl)) (fun K hK => ?_) AllReadyH.nil
              go_simp
              obtain ⟨V, hV, sV, qB, kV⟩ := blocks1 w6c (.cells #[.int .i64 r.c, .int .i64 r.n, .int .i64 r.o, .int .i64 r.x, .int .i64 r.y] 34)
              have hrv : RowsAt V (some ⟨w6c.heap.size, 0, none⟩) 5 Rq.cs [r] := by rw [hV]; exact rowsAt_req w6c r _
              rw [← hV]
              have HRV := Lib.hid hrv
              have D2 := Lib.hid (D1.out.below kV)
              clear hV sV qB kV hrv
              refine hK.out _ _ trivial (fun hHeld => ?_)
              clear hK K hHeld
              try simp only [Act.put, List.setIfInBounds_toArray, List.set]
              refine wpAnyH_ready (rs := [5]) (by kernel_rfl) (by simp) ?_
              refine AllReadyH.cons (o := _) (by (simp only [List.getElem?_toArray]; rfl)) (fun K hK => ?_) AllReadyH.nil
              refine step_append_elt (by rfl) (.tmp 35) (.tmp 38) (by rfl) (ws.length + 1) eltReq (by rfl) (by rfl) D2.out.wt HRV.out rfl rfl rfl (by simp only [maxLen]; omega) (by omega) (by exact lt_of_block D2.out.blk) ?_
              intro a5 c5 w9 q9
              have MA := Lib.hid (D2.out.app q9 rfl HX.out.1 (by rw [HSW.out]; exact HX.out.2))
              have BX := Lib.hid ((q9.grown.block X (lt_of_block D2.out.blk) (fun e => by have := (D2.out.wt.blk e.symm).1; omega)).trans D2.out.blk)
              clear q9 HRV D2
              refine hK.out _ _ trivial (fun hHeld => ?_)
              clear hK K hHeld
              try simp only [Act.put, List.setIfInBounds_toArray, List.set]
              have hHeld := True.intro
              refine wpAnyH_take (i := 6) (oi := _) (v := ?_) (by (simp only [List.getElem?_toArray]; rfl)) (by kernel_rfl) (by kernel_rfl) (by kernel_rfl) (by exact fun _ _ _ h => h) (Or.inl ⟨by rfl, ?_⟩) (by assumption) ?_
              rotate_left
              · intro wS hSw
                go_simp
                all_goals first | with_reducible rfl | rw [if_neg (by omega)]
              simp only [Act.put, List.setIfInBounds_toArray, List.set]
              clear hHeld
              have cX := cell_of_block BX.out
              have fX := unfrozen_of_block BX.out
              have lX := lt_of_block BX.out
              refine wpAnyH_ready (rs := [7]) (by kernel_rfl) (by simp) ?_
              refine AllReadyH.cons (o := _) (by (simp only [List.getElem?_toArray]; rfl)) (fun K hK => ?_) AllReadyH.nil
              go_simp
              refine hK.out _ _ trivial (fun hHeld => ?_)
              clear hK K
              try simp only [Act.put, List.setIfInBounds_toArray, List.set]
              refine wpAnyH_done (by kernel_rfl) ?_ _
              have bR := carry MA.out.grown (by have := HLT.out; omega) RW.out
              have cR := cell_of_block bR
              have fR := unfrozen_of_block bR
              have lR := lt_of_block bR
              clear bR cX fX lX
              obtain ⟨U, hU⟩ : ∃ U, U = w9.setCell ⟨X, 1, none⟩ (.slice a5 (ws.length + 1) c5) := ⟨_, rfl⟩
              rw [← hU] at MA cR fR lR ⊢
              have cX := cell_of_block MA.out.blk
              have lX := lt_of_block MA.out.blk
              have HLA := Lib.hid (show (ws ++ [r]).length = ws.length + 1 by simp)
              rw [HLA.out] at cX
              clear hU
              go_wp2_with fail
              refine bodyPost_ret (v := .agg #[.slice a0 rs.length c0, .slice a5 (ws.length + 1) c5, .int .i64 bk]) (by simp [results, Try.results78, go_sem, cR]) rfl ?_
              obtain ⟨z, b0, b1, d0, d1, h⟩ := MA.out.done HKW.out HLT.out HX.out.2 (.slice a0 rs.length c0) (.slice a5 (ws.length + 1) c5) (.int .i64 bk) h8 (by rw [HLA.out]; omega)
              rw [HLA.out] at h
              exact ⟨z, b0, b1, d0, d1, h.1, h.2.1, h.2.2.1, h.2.2.2.1, h.2.2.2.2.1, h.2.2.2.2.2.1.mono (by omega), h.2.2.2.2.2.2⟩
            refine AllReadyH.cons (o := _) (by (simp only [List.getElem?_toArray]; rfl)) (fun K hK => ?_) ?_
            · skip
              go_simp
              obtain ⟨V, hV, sV, qB, kV⟩ := blocks1 w6c (.cells #[.int .i64 r.c, .int .i64 r.n, .int .i64 r.o, .int .i64 r.x, .int .i64 r.y] 34)
              have hrv : RowsAt V (some ⟨w6c.heap.size, 0, none⟩) 5 Rq.cs [r] := by rw [hV]; exact rowsAt_req w6c r _
              rw [← hV]
              have HRV := Lib.hid hrv
              have D2 := Lib.hid (D1.out.below kV)
              clear hV sV qB kV hrv
              refine hK.out _ _ trivial (fun hHeld => ?_)
              clear hK K hHeld
              try simp only [Act.put, List.setIfInBounds_toArray, List.set]
              refine wpAnyH_ready (rs := [1]) (by kernel_rfl) (by simp) ?_
              refine AllReadyH.cons (o := _) (by (simp only [List.getElem?_toArray]; rfl)) (fun K hK => ?_) AllReadyH.nil
              have cX := cell_of_block D2.out.blk
              have lX := lt_of_block D2.out.blk
              go_simp
              clear cX lX
              refine hK.out _ _ trivial (fun hHeld => ?_)
              clear hK K hHeld
              try simp only [Act.put, List.setIfInBounds_toArray, List.set]
              refine wpAnyH_ready (rs := [5]) (by kernel_rfl) (by simp) ?_
              refine AllReadyH.cons (o := _) (by (simp only [List.getElem?_toArray]; rfl)) (fun K hK => ?_) AllReadyH.nil
              refine step_append_elt (by rfl) (.tmp 35) (.tmp 38) (by rfl) (ws.length + 1) eltReq (by rfl) (by rfl) D2.out.wt HRV.out rfl rfl rfl (by simp only [maxLen]; omega) (by omega) (by exact lt_of_block D2.out.blk) ?_
              intro a5 c5 w9 q9
              have MA := Lib.hid (D2.out.app q9 rfl HX.out.1 (by rw [HSW.out]; exact HX.out.2))
              have BX := Lib.hid ((q9.grown.block X (lt_of_block D2.out.blk) (fun e => by have := (D2.out.wt.blk e.symm).1; omega)).trans D2.out.blk)
              clear q9 HRV D2
              refine hK.out _ _ trivial (fun hHeld => ?_)
              clear hK K hHeld
              try simp only [Act.put, List.setIfInBounds_toArray, List.set]
              have hHeld := True.intro
              refine wpAnyH_take (i := 6) (oi := _) (v := ?_) (by (simp only [List.getElem?_toArray]; rfl)) (by kernel_rfl) (by kernel_rfl) (by kernel_rfl) (by exact fun _ _ _ h => h) (Or.inl ⟨by rfl, ?_⟩) (by assumption) ?_
              rotate_left
              · intro wS hSw
                go_simp
                all_goals first | with_reducible rfl | rw [if_neg (by omega)]
              simp only [Act.put, List.setIfInBounds_toArray, List.set]
              clear hHeld
              have cX := cell_of_block BX.out
              have fX := unfrozen_of_block BX.out
              have lX := lt_of_block BX.out
              refine wpAnyH_ready (rs := [7]) (by kernel_rfl) (by simp) ?_
              refine AllReadyH.cons (o := _) (by (simp only [List.getElem?_toArray]; rfl)) (fun K hK => ?_) AllReadyH.nil
              go_simp
              refine hK.out _ _ trivial (fun hHeld => ?_)
              clear hK K
              try simp only [Act.put, List.setIfInBounds_toArray, List.set]
              refine wpAnyH_done (by kernel_rfl) ?_ _
              have bR := carry MA.out.grown (by have := HLT.out; omega) RW.out
              have cR := cell_of_block bR
              have fR := unfrozen_of_block bR
              have lR := lt_of_block bR
              clear bR cX fX lX
              obtain ⟨U, hU⟩ : ∃ U, U = w9.setCell ⟨X, 1, none⟩ (.slice a5 (ws.length + 1) c5) := ⟨_, rfl⟩
              rw [← hU] at MA cR fR lR ⊢
              have cX := cell_of_block MA.out.blk
              have lX := lt_of_block MA.out.blk
              have HLA := Lib.hid (show (ws ++ [r]).length = ws.length + 1 by simp)
              rw [HLA.out] at cX
              clear hU
              go_wp2_with fail
              refine bodyPost_ret (v := .agg #[.slice a0 rs.length c0, .slice a5 (ws.length + 1) c5, .int .i64 bk]) (by simp [results, Try.results78, go_sem, cR]) rfl ?_
              obtain ⟨z, b0, b1, d0, d1, h⟩ := MA.out.done HKW.out HLT.out HX.out.2 (.slice a0 rs.length c0) (.slice a5 (ws.length + 1) c5) (.int .i64 bk) h8 (by rw [HLA.out]; omega)
              rw [HLA.out] at h
              exact ⟨z, b0, b1, d0, d1, h.1, h.2.1, h.2.2.1, h.2.2.2.1, h.2.2.2.2.1, h.2.2.2.2.2.1.mono (by omega), h.2.2.2.2.2.2⟩
            exact AllReadyH.nil
          exact AllReadyH.nil
        · have cX := cell_of_block HM6.out.blk
          have lX := lt_of_block HM6.out.blk
          have bR := carry HM6.out.grown (by have := HLT.out; omega) RW.out
          have cR := cell_of_block bR
          have fR := unfrozen_of_block bR
          have lR := lt_of_block bR
          clear bR
          have hne : ¬ (w.heap.size = X) := by have := HX.out.2; omega
          have hne' : ¬ (X = w.heap.size) := by have := HX.out.2; omega
          go_wp2_with fail
          refine bodyPost_ret (v := .agg #[.slice a0 rs.length c0, .slice a1 ws.length c1, .int .i64 bk]) (by simp [results, Try.results78, go_sem, cR]) rfl ?_
          obtain ⟨z, b0, b1, d0, d1, h⟩ := HM6.out.done HKW.out HLT.out HX.out.2 (.slice a0 rs.length c0) (.slice a1 ws.length c1) (.int .i64 bk) h8 (by omega)
          exact ⟨z, b0, b1, d0, d1, h.1, h.2.1, h.2.2.1, h.2.2.2.1, h.2.2.2.2.1, h.2.2.2.2.2.1.mono (by omega), h.2.2.2.2.2.2⟩
    · go_wp2_with fail
      refine wp_region_held_drew (S := fun _ => True) (by kernel_rfl) trivial (fun hHeld => ?_)
      obtain ⟨wd, hwd, kwd⟩ : ∃ wd, wd = wr.drew ∧ Below wr.heap.size wr wd := ⟨_, rfl, Below.drew (Below.refl _ _)⟩
      rw [← hwd]
      clear hwd
      have D0 := Lib.hid (HM.out.below kwd)
      clear kwd hHeld
      have hHeld := True.intro
      refine wpAnyH_take (i := 0) (oi := _) (v := ?_) (by (simp only [List.getElem?_toArray]; rfl)) (by kernel_rfl) (by kernel_rfl) (by kernel_rfl) (by exact fun _ _ _ h => h) (Or.inl ⟨by rfl, ?_⟩) (by assumption) ?_
      rotate_left
      · intro wS hSw
        go_simp
        all_goals first | with_reducible rfl | rw [if_neg (by omega)]
      simp only [Act.put, List.setIfInBounds_toArray, List.set]
      refine wpAnyH_take (i := 2) (oi := _) (v := ?_) (by (simp only [List.getElem?_toArray]; rfl)) (by kernel_rfl) (by kernel_rfl) (by kernel_rfl) (by exact fun _ _ _ h => h) (Or.inl ⟨by rfl, ?_⟩) (by assumption) ?_
      rotate_left
      · intro wS hSw
        go_simp
        all_goals first | with_reducible rfl | rw [if_neg (by omega)]
      simp only [Act.put, List.setIfInBounds_toArray, List.set]
      clear hHeld
      refine wpAnyH_ready (rs := [1, 3]) (by kernel_rfl) (by simp) ?_
      refine AllReadyH.cons (o := _) (by (simp only [List.getElem?_toArray]; rfl)) (fun K hK => ?_) ?_
      · skip
        have cX := cell_of_block D0.out.blk
        have lX := lt_of_block D0.out.blk
        go_simp
        clear cX lX
        refine hK.out _ _ trivial (fun hHeld => ?_)
        clear hK K hHeld
        try simp only [Act.put, List.setIfInBounds_toArray, List.set]
        refine wpAnyH_ready (rs := [3]) (by kernel_rfl) (by simp) ?_
        refine AllReadyH.cons (o := _) (by (simp only [List.getElem?_toArray]; rfl)) (fun K hK => ?_) AllReadyH.nil
        go_simp
        refine (l20Req_c _ g _ D0.out.rdr (by omega)).mono ?_
        rintro e w6c ⟨r, rfl, -, -, rc, kc⟩
        have D1 := Lib.hid (D0.out.read kc rc HX.out.1 (by have := HLT.out; omega))
        clear rc kc
        refine hK.out _ _ trivial (fun hHeld => ?_)
        clear hK K hHeld
        try simp only [Act.put, List.setIfInBounds_toArray, List.set]
        refine wpAnyH_ready (rs := [4]) (by kernel_rfl) (by simp) ?_
        refine AllReadyH.cons (o := _) (by (simp only [List.getElem?_toArray]; rfl)) (fun K hK => ?_) AllReadyH.nil
        go_simp
        obtain ⟨V, hV, sV, qB, kV⟩ := blocks1 w6c (.cells #[.int .i64 r.c, .int .i64 r.n, .int .i64 r.o, .int .i64 r.x, .int .i64 r.y] 34)
        have hrv : RowsAt V (some ⟨w6c.heap.size, 0, none⟩) 5 Rq.cs [r] := by rw [hV]; exact rowsAt_req w6c r _
        rw [← hV]
        have HRV := Lib.hid hrv
        have D2 := Lib.hid (D1.out.below kV)
        clear hV sV qB kV hrv
        refine hK.out _ _ trivial (fun hHeld => ?_)
        clear hK K hHeld
        try simp only [Act.put, List.setIfInBounds_toArray, List.set]
        refine wpAnyH_ready (rs := [5]) (by kernel_rfl) (by simp) ?_
        refine AllReadyH.cons (o := _) (by (simp only [List.getElem?_toArray]; rfl)) (fun K hK => ?_) AllReadyH.nil
        refine step_append_elt (by rfl) (.tmp 18) (.tmp 21) (by rfl) (ws.length + 1) eltReq (by rfl) (by rfl) D2.out.wt HRV.out rfl rfl rfl (by simp only [maxLen]; omega) (by omega) (by exact lt_of_block D2.out.blk) ?_
        intro a5 c5 w9 q9
        have MA := Lib.hid (D2.out.app q9 rfl HX.out.1 (by rw [HSW.out]; exact HX.out.2))
        have BX := Lib.hid ((q9.grown.block X (lt_of_block D2.out.blk) (fun e => by have := (D2.out.wt.blk e.symm).1; omega)).trans D2.out.blk)
        clear q9 HRV D2
        refine hK.out _ _ trivial (fun hHeld => ?_)
        clear hK K hHeld
        try simp only [Act.put, List.setIfInBounds_toArray, List.set]
        have hHeld := True.intro
        refine wpAnyH_take (i := 6) (oi := _) (v := ?_) (by (simp only [List.getElem?_toArray]; rfl)) (by kernel_rfl) (by kernel_rfl) (by kernel_rfl) (by exact fun _ _ _ h => h) (Or.inl ⟨by rfl, ?_⟩) (by assumption) ?_
        rotate_left
        · intro wS hSw
          go_simp
          all_goals first | with_reducible rfl | rw [if_neg (by omega)]
        simp only [Act.put, List.setIfInBounds_toArray, List.set]
        clear hHeld
        have cX := cell_of_block BX.out
        have fX := unfrozen_of_block BX.out
        have lX := lt_of_block BX.out
        refine wpAnyH_ready (rs := [7]) (by kernel_rfl) (by simp) ?_
        refine AllReadyH.cons (o := _) (by (simp only [List.getElem?_toArray]; rfl)) (fun K hK => ?_) AllReadyH.nil
        go_simp
        refine hK.out _ _ trivial (fun hHeld => ?_)
        clear hK K
        try simp only [Act.put, List.setIfInBounds_toArray, List.set]
        refine wpAnyH_done (by kernel_rfl) ?_ _
        have hwm' : IntKind.i64.wrap ((m : Int) - 1) = (m : Int) - 1 := IntWalk.i64_in _ ⟨by omega, by omega⟩
        clear cX fX lX
        go_wp2_with fail
        go_roundw
        case rel =>
          refine ⟨m - 1, ws ++ [r], a5, c5, ?_, by simp; omega, ?_⟩
          · have : ((m - 1 : Nat) : Int) = (m : Int) - 1 := by omega
            rw [this]
          · have h := MA.out
            rw [List.length_append]
            exact ⟨h.blk, h.dn, h.wt, h.low, h.rdr.mono (by simp; omega), h.grown⟩
        case measure => simp [intOf]; omega
      refine AllReadyH.cons (o := _) (by (simp only [List.getElem?_toArray]; rfl)) (fun K hK => ?_) ?_
      · skip
        go_simp
        refine (l20Req_c _ g _ D0.out.rdr (by omega)).mono ?_
        rintro e w6c ⟨r, rfl, -, -, rc, kc⟩
        have D1 := Lib.hid (D0.out.read kc rc HX.out.1 (by have := HLT.out; omega))
        clear rc kc
        refine hK.out _ _ trivial (fun hHeld => ?_)
        clear hK K hHeld
        try simp only [Act.put, List.setIfInBounds_toArray, List.set]
        refine wpAnyH_ready (rs := [1, 4]) (by kernel_rfl) (by simp) ?_
        refine AllReadyH.cons (o := _) (by (simp only [List.getElem?_toArray]; rfl)) (fun K hK => ?_) ?_
        · skip
          have cX := cell_of_block D1.out.blk
          have lX := lt_of_block D1.out.blk
          go_simp
          clear cX lX
          refine hK.out _ _ trivial (fun hHeld => ?_)
          clear hK K hHeld
          try simp only [Act.put, List.setIfInBounds_toArray, List.set]
          refine wpAnyH_ready (rs := [4]) (by kernel_rfl) (by simp) ?_
          refine AllReadyH.cons (o := _) (by (simp only [List.getElem?_toArray]; rfl)) (fun K hK => ?_) AllReadyH.nil
          go_simp
          obtain ⟨V, hV, sV, qB, kV⟩ := blocks1 w6c (.cells #[.int .i64 r.c, .int .i64 r.n, .int .i64 r.o, .int .i64 r.x, .int .i64 r.y] 34)
          have hrv : RowsAt V (some ⟨w6c.heap.size, 0, none⟩) 5 Rq.cs [r] := by rw [hV]; exact rowsAt_req w6c r _
          rw [← hV]
          have HRV := Lib.hid hrv
          have D2 := Lib.hid (D1.out.below kV)
          clear hV sV qB kV hrv
          refine hK.out _ _ trivial (fun hHeld => ?_)
          clear hK K hHeld
          try simp only [Act.put, List.setIfInBounds_toArray, List.set]
          refine wpAnyH_ready (rs := [5]) (by kernel_rfl) (by simp) ?_
          refine AllReadyH.cons (o := _) (by (simp only [List.getElem?_toArray]; rfl)) (fun K hK => ?_) AllReadyH.nil
          refine step_append_elt (by rfl) (.tmp 18) (.tmp 21) (by rfl) (ws.length + 1) eltReq (by rfl) (by rfl) D2.out.wt HRV.out rfl rfl rfl (by simp only [maxLen]; omega) (by omega) (by exact lt_of_block D2.out.blk) ?_
          intro a5 c5 w9 q9
          have MA := Lib.hid (D2.out.app q9 rfl HX.out.1 (by rw [HSW.out]; exact HX.out.2))
          have BX := Lib.hid ((q9.grown.block X (lt_of_block D2.out.blk) (fun e => by have := (D2.out.wt.blk e.symm).1; omega)).trans D2.out.blk)
          clear q9 HRV D2
          refine hK.out _ _ trivial (fun hHeld => ?_)
          clear hK K hHeld
          try simp only [Act.put, List.setIfInBounds_toArray, List.set]
          have hHeld := True.intro
          refine wpAnyH_take (i := 6) (oi := _) (v := ?_) (by (simp only [List.getElem?_toArray]; rfl)) (by kernel_rfl) (by kernel_rfl) (by kernel_rfl) (by exact fun _ _ _ h => h) (Or.inl ⟨by rfl, ?_⟩) (by assumption) ?_
          rotate_left
          · intro wS hSw
            go_simp
            all_goals first | with_reducible rfl | rw [if_neg (by omega)]
          simp only [Act.put, List.setIfInBounds_toArray, List.set]
          clear hHeld
          have cX := cell_of_block BX.out
          have fX := unfrozen_of_block BX.out
          have lX := lt_of_block BX.out
          refine wpAnyH_ready (rs := [7]) (by kernel_rfl) (by simp) ?_
          refine AllReadyH.cons (o := _) (by (simp only [List.getElem?_toArray]; rfl)) (fun K hK => ?_) AllReadyH.nil
          go_simp
          refine hK.out _ _ trivial (fun hHeld => ?_)
          clear hK K
          try simp only [Act.put, List.setIfInBounds_toArray, List.set]
          refine wpAnyH_done (by kernel_rfl) ?_ _
          have hwm' : IntKind.i64.wrap ((m : Int) - 1) = (m : Int) - 1 := IntWalk.i64_in _ ⟨by omega, by omega⟩
          clear cX fX lX
          go_wp2_with fail
          go_roundw
          case rel =>
            refine ⟨m - 1, ws ++ [r], a5, c5, ?_, by simp; omega, ?_⟩
            · have : ((m - 1 : Nat) : Int) = (m : Int) - 1 := by omega
              rw [this]
            · have h := MA.out
              rw [List.length_append]
              exact ⟨h.blk, h.dn, h.wt, h.low, h.rdr.mono (by simp; omega), h.grown⟩
          case measure => simp [intOf]; omega
        refine AllReadyH.cons (o := _) (by (simp only [List.getElem?_toArray]; rfl)) (fun K hK => ?_) ?_
        · skip
          go_simp
          obtain ⟨V, hV, sV, qB, kV⟩ := blocks1 w6c (.cells #[.int .i64 r.c, .int .i64 r.n, .int .i64 r.o, .int .i64 r.x, .int .i64 r.y] 34)
          have hrv : RowsAt V (some ⟨w6c.heap.size, 0, none⟩) 5 Rq.cs [r] := by rw [hV]; exact rowsAt_req w6c r _
          rw [← hV]
          have HRV := Lib.hid hrv
          have D2 := Lib.hid (D1.out.below kV)
          clear hV sV qB kV hrv
          refine hK.out _ _ trivial (fun hHeld => ?_)
          clear hK K hHeld
          try simp only [Act.put, List.setIfInBounds_toArray, List.set]
          refine wpAnyH_ready (rs := [1]) (by kernel_rfl) (by simp) ?_
          refine AllReadyH.cons (o := _) (by (simp only [List.getElem?_toArray]; rfl)) (fun K hK => ?_) AllReadyH.nil
          have cX := cell_of_block D2.out.blk
          have lX := lt_of_block D2.out.blk
          go_simp
          clear cX lX
          refine hK.out _ _ trivial (fun hHeld => ?_)
          clear hK K hHeld
          try simp only [Act.put, List.setIfInBounds_toArray, List.set]
          refine wpAnyH_ready (rs := [5]) (by kernel_rfl) (by simp) ?_
          refine AllReadyH.cons (o := _) (by (simp only [List.getElem?_toArray]; rfl)) (fun K hK => ?_) AllReadyH.nil
          refine step_append_elt (by rfl) (.tmp 18) (.tmp 21) (by rfl) (ws.length + 1) eltReq (by rfl) (by rfl) D2.out.wt HRV.out rfl rfl rfl (by simp only [maxLen]; omega) (by omega) (by exact lt_of_block D2.out.blk) ?_
          intro a5 c5 w9 q9
          have MA := Lib.hid (D2.out.app q9 rfl HX.out.1 (by rw [HSW.out]; exact HX.out.2))
          have BX := Lib.hid ((q9.grown.block X (lt_of_block D2.out.blk) (fun e => by have := (D2.out.wt.blk e.symm).1; omega)).trans D2.out.blk)
          clear q9 HRV D2
          refine hK.out _ _ trivial (fun hHeld => ?_)
          clear hK K hHeld
          try simp only [Act.put, List.setIfInBounds_toArray, List.set]
          have hHeld := True.intro
          refine wpAnyH_take (i := 6) (oi := _) (v := ?_) (by (simp only [List.getElem?_toArray]; rfl)) (by kernel_rfl) (by kernel_rfl) (by kernel_rfl) (by exact fun _ _ _ h => h) (Or.inl ⟨by rfl, ?_⟩) (by assumption) ?_
          rotate_left
          · intro wS hSw
            go_simp
            all_goals first | with_reducible rfl | rw [if_neg (by omega)]
          simp only [Act.put, List.setIfInBounds_toArray, List.set]
          clear hHeld
          have cX := cell_of_block BX.out
          have fX := unfrozen_of_block BX.out
          have lX := lt_of_block BX.out
          refine wpAnyH_ready (rs := [7]) (by kernel_rfl) (by simp) ?_
          refine AllReadyH.cons (o := _) (by (simp only [List.getElem?_toArray]; rfl)) (fun K hK => ?_) AllReadyH.nil
          go_simp
          refine hK.out _ _ trivial (fun hHeld => ?_)
          clear hK K
          try simp only [Act.put, List.setIfInBounds_toArray, List.set]
          refine wpAnyH_done (by kernel_rfl) ?_ _
          have hwm' : IntKind.i64.wrap ((m : Int) - 1) = (m : Int) - 1 := IntWalk.i64_in _ ⟨by omega, by omega⟩
          clear cX fX lX
          go_wp2_with fail
          go_roundw
          case rel =>
            refine ⟨m - 1, ws ++ [r], a5, c5, ?_, by simp; omega, ?_⟩
            · have : ((m - 1 : Nat) : Int) = (m : Int) - 1 := by omega
              rw [this]
            · have h := MA.out
              rw [List.length_append]
              exact ⟨h.blk, h.dn, h.wt, h.low, h.rdr.mono (by simp; omega), h.grown⟩
          case measure => simp [intOf]; omega
        exact AllReadyH.nil
      exact AllReadyH.nil
end Go.Proofs.Ytofedboeggdkaaa

/-! What is done ahead, drawn of a code (DrawAheadGame, DrawAheadSure, DrawAheadCodes, DrawAheadPush, DrawAheadKeep): two rows of its own, and an ask; no condition but a code of bytes. -/
namespace Go.Proofs.Ytofedboeggdkaaa
open Go.RowKit Go.Joins

theorem block_setA {w : World} {G : Nat} {p q r s t : Value} {T : TypeId} (hG : w.heap[G]? = some (.cells #[p, q, r, s, t] T (0, 0))) (a b c d e : Value) :
    (((((w.setCell ⟨G, 0, none⟩ a).setCell ⟨G, 1, none⟩ b).setCell ⟨G, 2, none⟩ c).setCell ⟨G, 3, none⟩ d).setCell ⟨G, 4, none⟩ e).heap[G]? = some (.cells #[a, b, c, d, e] T (0, 0)) := by
  exact block_setCell (i := 4) (block_setCell (i := 3) (block_setCell (i := 2) (block_setCell (i := 1) (block_setCell (i := 0) hG a) b) c) d) e
theorem below_setA {A w : World} {D G : Nat} (h : Below D A w) (hG : D ≤ G) (a b c d e : Value) : Below D A (((((w.setCell ⟨G, 0, none⟩ a).setCell ⟨G, 1, none⟩ b).setCell ⟨G, 2, none⟩ c).setCell ⟨G, 3, none⟩ d).setCell ⟨G, 4, none⟩ e) :=
  Below.setCell (Below.setCell (Below.setCell (Below.setCell (Below.setCell h hG _) hG _) hG _) hG _) hG _
theorem block_keptA {w : World} {G k : Nat} (hb : k ≠ G) (a b c d e : Value) : (((((w.setCell ⟨G, 0, none⟩ a).setCell ⟨G, 1, none⟩ b).setCell ⟨G, 2, none⟩ c).setCell ⟨G, 3, none⟩ d).setCell ⟨G, 4, none⟩ e).heap[k]? = w.heap[k]? := by
  repeat rw [Below.heap_setCell _ _ _ _ (by simpa using hb)]
/-- What is done ahead, in rows of its own. -/
def AheadAny (w : World) (e : Ending) (w' : World) : Prop :=
  ∃ (z : Ah) (a0 a1 : Option Addr) (c0 c1 : Nat), e = .returned (.agg #[.slice a0 z.dn.length c0, .slice a1 z.wt.length c1, .int .i64 z.bk]) ∧ z.dn.length ≤ 8 ∧ z.wt.length ≤ 5 ∧
    Row w' w.heap.size 34 a0 c0 5 Rq.cs z.dn ∧ Row w' w.heap.size 34 a1 c1 5 Rq.cs z.wt ∧ Below w.heap.size w w'
/-- What is done ahead, in rows of its own, and an ask. -/
def AheadAsk (w : World) (e : Ending) (w' : World) : Prop :=
  ∃ (z : Ah) (r : Rq) (a0 a1 : Option Addr) (c0 c1 : Nat), e = .returned (.tuple #[.agg #[.slice a0 z.dn.length c0, .slice a1 z.wt.length c1, .int .i64 z.bk], .agg #[.int .i64 r.c, .int .i64 r.n, .int .i64 r.o, .int .i64 r.x, .int .i64 r.y]]) ∧ z.dn.length ≤ 8 ∧ z.wt.length ≤ 5 ∧
    Row w' w.heap.size 34 a0 c0 5 Rq.cs z.dn ∧ Row w' w.heap.size 34 a1 c1 5 Rq.cs z.wt ∧ Below w.heap.size w w'

set_option maxRecDepth 100000 in
set_option maxHeartbeats 8000000 in
theorem DrawAheadKeep_c (v : Value) (z : Bts) (w : World) (hz : IsBytes w v z) :
    Calls Try.prog 34 #[v] w (AheadAsk w) := by
  have HZ := Lib.hid hz
  clear hz
  go_enter Try.func34, Try.ntmps34
  go_wp2_with fail
  obtain ⟨W, hW, sW, rW, qW, kW⟩ := blocks2 w (.cells #[.slice none 0 0, .slice none 0 0, .int .i64 0] 30) (.cells #[.int .i64 0, .int .i64 0, .int .i64 0, .int .i64 0, .int .i64 0] 34)
  rw [← hW]
  clear hW
  refine (l20Open_c v z W (HZ.out.below kW)).mono ?_
  rintro e w1 ⟨g, rfl, hg, r1, k1⟩
  have hl1 := r1.lt
  have R1 := Lib.hid (carryN k1 rW)
  have Q1 := Lib.hid (carryN k1 qW)
  have K1 := Lib.hid (below_next kW k1)
  clear k1 kW rW qW
  go_wp2_with fail
  refine (l20Ahead_c w1 g 0 r1 (by omega)).mono ?_
  rintro e w2 ⟨y, a0, a1, c0, c1, rfl, h8, h5, rd, rw', r2, k2⟩
  have hs2 := k2.size
  have K2 := Lib.hid (bel_grown K1.out k2 (by omega))
  have R2 := Lib.hid (carry k2 (by omega) R1.out)
  have Q2 := Lib.hid (carry k2 (by omega) Q1.out)
  have RD2 := Lib.hid rd
  have RW2 := Lib.hid rw'
  have D2 := Lib.hid r2
  clear rd rw' k2 r2 R1 Q1 K1 r1
  go_upto_region 3 with fail
  obtain ⟨w3, hw3, sw3, xB, k3⟩ := blocks1 w2 (.cells #[.slice a0 y.dn.length c0, .slice a1 y.wt.length c1, .int .i64 y.bk] 30)
  rw [← hw3]
  clear hw3 sw3
  obtain ⟨X, hX⟩ : ∃ X, X = w2.heap.size := ⟨_, rfl⟩
  have HX := Lib.hid (show g < X ∧ w.heap.size + 2 ≤ g ∧ w1.heap.size ≤ X by omega)
  rw [← hX] at xB ⊢
  have R3 := Lib.hid (carryN k3 R2.out)
  have Q3 := Lib.hid (carryN k3 Q2.out)
  have X3 := Lib.hid xB
  have RD3 := Lib.hid (RD2.out.below k3)
  have RW3 := Lib.hid (RW2.out.below k3)
  have D3 := Lib.hid (D2.out.below (k3.mono (by omega)))
  have K3 := Lib.hid (below_next K2.out k3)
  have L3 := Lib.hid (And.intro (fun b (hb : rowBlk a0 c0 = some b) => (RD2.out.blk hb).2) (fun b (hb : rowBlk a1 c1 = some b) => (RW2.out.blk hb).2))
  rw [← hX] at L3
  clear xB k3 R2 Q2 RD2 RW2 D2 K2 hX hs2
  have cX := cell_of_block X3.out
  have lX := lt_of_block X3.out
  have hsl := (RW3.out.sl five_len).bounds
  have hlc := hsl.2.1
  have hmx := hsl.2.2.1
  unfold maxLen at hmx
  clear hsl
  by_cases hw0 : y.wt.length = 0
  · have hw0' : ¬ ((0 : Int) < ((y.wt.length : Nat) : Int)) := by omega
    clear hw0
    go_wp2_with fail
    clear cX lX hw0'
    refine wp_region_held_drew (S := fun w' => ∀ i, w'.cell? ⟨X, i, none⟩ = (#[.slice a0 y.dn.length c0, .slice a1 y.wt.length c1, .int .i64 y.bk] : Array Value)[i]?) (by kernel_rfl) (cell_of_block (show w3.drew.heap[X]? = _ from X3.out)) (fun hHeld => ?_)
    refine wpAnyH_take (i := 0) (oi := _) (v := ?_) (by (simp only [List.getElem?_toArray]; rfl)) (by kernel_rfl) (by kernel_rfl) (by kernel_rfl) (by exact fun _ _ _ h => h) (Or.inl ⟨by rfl, ?_⟩) (by assumption) ?_
    rotate_left
    · intro wS hSw
      go_simp
      all_goals first | with_reducible rfl | rw [if_neg (by omega)]
    simp only [Act.put, List.setIfInBounds_toArray, List.set]
    refine wpAnyH_take (i := 1) (oi := _) (v := ?_) (by (simp only [List.getElem?_toArray]; rfl)) (by kernel_rfl) (by kernel_rfl) (by kernel_rfl) (by exact fun _ _ _ h => h) (Or.inl ⟨by rfl, ?_⟩) (by assumption) ?_
    rotate_left
    · intro wS hSw
      go_simp
      all_goals first | with_reducible rfl | rw [if_neg (by omega)]
    simp only [Act.put, List.setIfInBounds_toArray, List.set]
    clear hHeld
    obtain ⟨wd, hwd, kwd⟩ : ∃ wd, wd = w3.drew ∧ Below w3.heap.size w3 wd := ⟨_, rfl, Below.drew (Below.refl _ _)⟩
    rw [← hwd]
    clear hwd
    refine wpAnyH_ready (rs := [2]) (by kernel_rfl) (by simp) ?_
    refine AllReadyH.cons (o := _) (by (simp only [List.getElem?_toArray]; rfl)) (fun K hK => ?_) AllReadyH.nil
    go_simp
    refine (l20AnyReq_c wd g _ (D3.out.below (kwd.mono D3.out.lt)) (by omega)).mono ?_
    rintro e u1 ⟨r, rfl, rr, kk⟩
    have hgw := D3.out.lt
    have hB := lt_of_block X3.out
    have Ku := Lib.hid (bel_grown (below_next K3.out kwd) kk (by have := HX.out; omega))
    have Ru := Lib.hid (carry kk (by have := HX.out; omega) (carryN kwd R3.out))
    have Qu := Lib.hid (carry kk (by have := HX.out; omega) (carryN kwd Q3.out))
    have Xu := Lib.hid (carry kk (by have := HX.out; omega) (carryN kwd X3.out))
    have RDu := Lib.hid ((RD3.out.below kwd).kept kk (fun b hb => by have := (RD3.out.blk hb).1; intro e; injection e; omega))
    have RWu := Lib.hid ((RW3.out.below kwd).kept kk (fun b hb => by have := (RW3.out.blk hb).1; intro e; injection e; omega))
    clear kk rr kwd
    refine hK.out _ _ (cell_of_block Xu.out) (fun hHeld => ?_)
    clear hK K
    try simp only [Act.put, List.setIfInBounds_toArray, List.set]
    clear hHeld
    have hne1 : ¬ (w.heap.size = X) := by have := HX.out; omega
    have hne2 : ¬ (w.heap.size + 1 = X) := by have := HX.out; omega
    have hne3 : ¬ (X = w.heap.size) := by have := HX.out; omega
    have hne4 : ¬ (X = w.heap.size + 1) := by have := HX.out; omega
    have cR := cell_of_block Ru.out
    have fR := unfrozen_of_block Ru.out
    have lR := lt_of_block Ru.out
    refine wpAnyH_ready (rs := [3]) (by kernel_rfl) (by simp) ?_
    refine AllReadyH.cons (o := _) (by (simp only [List.getElem?_toArray]; rfl)) (fun K hK => ?_) AllReadyH.nil
    go_simp
    have Xs := (block_kept3 (G := w.heap.size) hne3 (.slice a0 y.dn.length c0) (.slice a1 y.wt.length c1) (.int .i64 y.bk)).trans Xu.out
    have Qs := (block_kept3 (G := w.heap.size) (show w.heap.size + 1 ≠ w.heap.size by omega) (.slice a0 y.dn.length c0) (.slice a1 y.wt.length c1) (.int .i64 y.bk)).trans Qu.out
    have Rs := block_set3 Ru.out (.slice a0 y.dn.length c0) (.slice a1 y.wt.length c1) (.int .i64 y.bk)
    have Ks := below_set3 Ku.out (Nat.le_refl _) (.slice a0 y.dn.length c0) (.slice a1 y.wt.length c1) (.int .i64 y.bk)
    have RDs := ((RDu.out.setOther (p := ⟨w.heap.size, 0, none⟩) (by simp; have := HX.out; omega) (.slice a0 y.dn.length c0)).setOther (p := ⟨w.heap.size, 1, none⟩) (by simp; have := HX.out; omega) (.slice a1 y.wt.length c1)).setOther (p := ⟨w.heap.size, 2, none⟩) (by simp; have := HX.out; omega) (.int .i64 y.bk)
    have RWs := ((RWu.out.setOther (p := ⟨w.heap.size, 0, none⟩) (by simp; have := HX.out; omega) (.slice a0 y.dn.length c0)).setOther (p := ⟨w.heap.size, 1, none⟩) (by simp; have := HX.out; omega) (.slice a1 y.wt.length c1)).setOther (p := ⟨w.heap.size, 2, none⟩) (by simp; have := HX.out; omega) (.int .i64 y.bk)
    obtain ⟨u2, hu2⟩ : ∃ V, V = ((u1.setCell ⟨w.heap.size, 0, none⟩ (.slice a0 y.dn.length c0)).setCell ⟨w.heap.size, 1, none⟩ (.slice a1 y.wt.length c1)).setCell ⟨w.heap.size, 2, none⟩ (.int .i64 y.bk) := ⟨_, rfl⟩
    rw [← hu2] at Xs Qs Rs Ks RDs RWs ⊢
    replace Xs := Lib.hid Xs
    replace Rs := Lib.hid Rs
    replace Ks := Lib.hid Ks
    replace RDs := Lib.hid RDs
    replace RWs := Lib.hid RWs
    have QS := Lib.hid Qs
    clear hu2 cR fR lR Qs
    refine hK.out _ _ (cell_of_block Xs.out) (fun hHeld => ?_)
    clear hK K
    try simp only [Act.put, List.setIfInBounds_toArray, List.set]
    clear hHeld
    have cQ := cell_of_block QS.out
    have fQ := unfrozen_of_block QS.out
    have lQ := lt_of_block QS.out
    refine wpAnyH_ready (rs := [4]) (by kernel_rfl) (by simp) ?_
    refine AllReadyH.cons (o := _) (by (simp only [List.getElem?_toArray]; rfl)) (fun K hK => ?_) AllReadyH.nil
    go_simp
    refine hK.out _ _ (cell_of_block (show _ = _ from (block_keptA (by have := HX.out; omega) _ _ _ _ _).trans Xs.out)) (fun hHeld => ?_)
    clear hK K
    try simp only [Act.put, List.setIfInBounds_toArray, List.set]
    refine wpAnyH_done (by kernel_rfl) ?_ _
    clear hHeld
    have cR := cell_of_block Rs.out
    have hr1 : ¬ (w.heap.size = w.heap.size + 1) := by omega
    go_wp2_with fail
    refine bodyPost_ret (v := .tuple #[.agg #[.slice a0 y.dn.length c0, .slice a1 y.wt.length c1, .int .i64 y.bk], .agg #[.int .i64 r.c, .int .i64 r.n, .int .i64 r.o, .int .i64 r.x, .int .i64 r.y]]) (by simp [results, Try.results34, go_sem, cR, cQ]) rfl ?_
    refine ⟨y, r, a0, a1, c0, c1, rfl, h8, h5, ?_, ?_, below_setA Ks.out (Nat.le_succ _) _ _ _ _ _⟩
    · exact (((((RDs.out.setOther (by simp; have := HX.out; omega) _).setOther (by simp; have := HX.out; omega) _).setOther (by simp; have := HX.out; omega) _).setOther (by simp; have := HX.out; omega) _).setOther (by simp; have := HX.out; omega) _).low (by have := HX.out; omega)
    · exact (((((RWs.out.setOther (by simp; have := HX.out; omega) _).setOther (by simp; have := HX.out; omega) _).setOther (by simp; have := HX.out; omega) _).setOther (by simp; have := HX.out; omega) _).setOther (by simp; have := HX.out; omega) _).low (by have := HX.out; omega)
  
  · have hw0' : (0 : Int) < ((y.wt.length : Nat) : Int) := by omega
    go_wp2_with fail
    refine (pick_c w3 g _ 4 D3.out (by omega) (by omega)).mono ?_
    rintro e w4 ⟨p, rfl, hp0, -, -, r4, k4⟩
    have hgw3 := D3.out.lt
    have hB3 := lt_of_block X3.out
    have K4 := Lib.hid (bel_grown K3.out k4 (by have := HX.out; omega))
    have R4 := Lib.hid (carry k4 (by have := HX.out; omega) R3.out)
    have Q4 := Lib.hid (carry k4 (by have := HX.out; omega) Q3.out)
    have X4 := Lib.hid (carry k4 (by have := HX.out; omega) X3.out)
    have RD4 := Lib.hid (RD3.out.kept k4 (fun b hb => by have := (RD3.out.blk hb).1; intro e; injection e; omega))
    have RW4 := Lib.hid (RW3.out.kept k4 (fun b hb => by have := (RW3.out.blk hb).1; intro e; injection e; omega))
    have D4 := Lib.hid r4
    clear r4 k4 cX lX K3 R3 Q3 X3 RD3 RW3 D3 hgw3 hB3
    by_cases hp : (0 : Int) < p
    · obtain ⟨F, cur, hF, hFB, hFb, hFs, hFq⟩ := RW4.out.own (by omega)
      subst hF
      have hFX : F < X := L3.out.2 F (by simp [rowBlk]; omega)
      have F4 := Lib.hid hFb
      have HF := Lib.hid (And.intro hFB hFX)
      have HFQ := Lib.hid hFq
      clear hFb hFB hFX hFs hFq
      go_wp2_with fail
      refine wp_region_held_drew (S := fun w' => (∀ i, w'.cell? ⟨X, i, none⟩ = (#[.slice a0 y.dn.length c0, .slice (some ⟨F, 0, none⟩) y.wt.length c1, .int .i64 y.bk] : Array Value)[i]?) ∧ (∀ i, w'.cell? ⟨F, i, none⟩ = cur[i]?)) (by kernel_rfl) ⟨cell_of_block (show w4.drew.heap[X]? = _ from X4.out), cell_of_block (show w4.drew.heap[F]? = _ from F4.out)⟩ (fun hHeld => ?_)
      refine wpAnyH_take (i := 0) (oi := _) (v := ?_) (by (simp only [List.getElem?_toArray]; rfl)) (by kernel_rfl) (by kernel_rfl) (by kernel_rfl) (by exact fun _ _ _ h => h) (Or.inl ⟨by rfl, ?_⟩) (by assumption) ?_
      rotate_left
      · intro wS hSw
        go_simp
        all_goals first | with_reducible rfl | rw [if_neg (by omega)]
      simp only [Act.put, List.setIfInBounds_toArray, List.set]
      refine wpAnyH_take (i := 1) (oi := _) (v := ?_) (by (simp only [List.getElem?_toArray]; rfl)) (by kernel_rfl) (by kernel_rfl) (by kernel_rfl) (by exact fun _ _ _ h => h) (Or.inl ⟨by rfl, ?_⟩) (by assumption) ?_
      rotate_left
      · intro wS hSw
        go_simp
        all_goals first | with_reducible rfl | rw [if_neg (by omega)]
      simp only [Act.put, List.setIfInBounds_toArray, List.set]
      refine wpAnyH_take (i := 2) (oi := _) (v := ?_) (by (simp only [List.getElem?_toArray]; rfl)) (by kernel_rfl) (by kernel_rfl) (by kernel_rfl) (by exact fun _ _ _ h => h) (Or.inl ⟨by rfl, ?_⟩) (by assumption) ?_
      rotate_left
      · intro wS hSw
        go_simp
        all_goals first | with_reducible rfl | rw [if_neg (by omega)]
      simp only [Act.put, List.setIfInBounds_toArray, List.set]
      refine wpAnyH_take (i := 3) (oi := _) (v := ?_) (by (simp only [List.getElem?_toArray]; rfl)) (by kernel_rfl) (by kernel_rfl) (by kernel_rfl) (by exact fun _ _ _ h => h) (Or.inl ⟨by rfl, ?_⟩) (by assumption) ?_
      rotate_left
      · intro wS hSw
        go_simp
        all_goals first | with_reducible rfl | rw [if_neg (by omega)]
      simp only [Act.put, List.setIfInBounds_toArray, List.set]
      refine wpAnyH_take (i := 4) (oi := _) (v := ?_) (by (simp only [List.getElem?_toArray]; rfl)) (by kernel_rfl) (by kernel_rfl) (by kernel_rfl) (by exact fun _ _ _ h => h) (Or.inl ⟨by rfl, ?_⟩) (by assumption) ?_
      rotate_left
      · intro wS hSw
        go_simp
        all_goals first | with_reducible rfl | rw [if_neg (by omega)]
      simp only [Act.put, List.setIfInBounds_toArray, List.set]
      refine wpAnyH_take (i := 5) (oi := _) (v := ?_) (by (simp only [List.getElem?_toArray]; rfl)) (by kernel_rfl) (by kernel_rfl) (by kernel_rfl) (by exact fun _ _ _ h => h) (Or.inl ⟨by rfl, ?_⟩) (by assumption) ?_
      rotate_left
      · intro wS hSw
        go_simp
        all_goals first | with_reducible rfl | rw [if_neg (by omega)]
      simp only [Act.put, List.setIfInBounds_toArray, List.set]
      refine wpAnyH_take (i := 6) (oi := _) (v := ?_) (by (simp only [List.getElem?_toArray]; rfl)) (by kernel_rfl) (by kernel_rfl) (by kernel_rfl) (by exact fun _ _ _ h => h) (Or.inl ⟨by rfl, ?_⟩) (by assumption) ?_
      rotate_left
      · intro wS hSw
        go_simp
        all_goals first | with_reducible rfl | rw [if_neg (by omega)]
      simp only [Act.put, List.setIfInBounds_toArray, List.set]
      refine wpAnyH_take (i := 7) (oi := _) (v := ?_) (by (simp only [List.getElem?_toArray]; rfl)) (by kernel_rfl) (by kernel_rfl) (by kernel_rfl) (by exact fun _ _ _ h => h) (Or.inl ⟨by rfl, ?_⟩) (by assumption) ?_
      rotate_left
      · intro wS hSw
        go_simp
        all_goals first | with_reducible rfl | rw [if_neg (by omega)]
      simp only [Act.put, List.setIfInBounds_toArray, List.set]
      clear hHeld
      obtain ⟨wd, hwd, kwd⟩ : ∃ wd, wd = w4.drew ∧ Below w4.heap.size w4 wd := ⟨_, rfl, Below.drew (Below.refl _ _)⟩
      rw [← hwd]
      clear hwd
      have hgw4 := D4.out.lt
      have X5 := Lib.hid (carryN kwd X4.out)
      have F5 := Lib.hid (carryN kwd F4.out)
      have D5 := Lib.hid (D4.out.below (kwd.mono D4.out.lt))
      have R5 := Lib.hid (carryN kwd R4.out)
      have Q5 := Lib.hid (carryN kwd Q4.out)
      have RD5 := Lib.hid (RD4.out.below kwd)
      have RW5 := Lib.hid (RW4.out.below kwd)
      have K5 := Lib.hid (below_next K4.out kwd)
      clear kwd X4 F4 D4 R4 Q4 RD4 RW4 K4
      refine wpAnyH_ready (rs := [8]) (by kernel_rfl) (by simp) ?_
      refine AllReadyH.cons (o := _) (by (simp only [List.getElem?_toArray]; rfl)) (fun K hK => ?_) AllReadyH.nil
      go_simp
      refine (pick_c wd g _ ((y.wt.length : Nat) : Int) D5.out (by omega) (by omega)).mono ?_
      rintro e u1 ⟨q, rfl, hq0, hq1, -, r6, k6⟩
      replace hq1 := hq1 (by omega)
      have X6 := Lib.hid (carry k6 (by have := HX.out; omega) X5.out)
      have F6 := Lib.hid (carry k6 (by have := HX.out; have := HF.out; omega) F5.out)
      have hl5x := D5.out.lt
      have D6 := Lib.hid r6
      have R6 := Lib.hid (carry k6 (by have := HX.out; omega) R5.out)
      have Q6 := Lib.hid (carry k6 (by have := HX.out; omega) Q5.out)
      have RD6 := Lib.hid (RD5.out.kept k6 (fun b hb => by have := (RD5.out.blk hb).1; intro e; injection e; omega))
      have RW6 := Lib.hid (RW5.out.kept k6 (fun b hb => by have := (RW5.out.blk hb).1; intro e; injection e; omega))
      have hsz5 := lt_of_block X5.out
      have K6 := Lib.hid (bel_grown K5.out k6 (by have := HX.out; omega))
      clear k6 r6 X5 F5 D5 R5 Q5 RD5 RW5 K5 hl5x hsz5
      refine hK.out _ _ ⟨cell_of_block X6.out, cell_of_block F6.out⟩ (fun hHeld => ?_)
      clear hK K
      try simp only [Act.put, List.setIfInBounds_toArray, List.set]
      clear hHeld
      refine wpAnyH_ready (rs := [9]) (by kernel_rfl) (by simp) ?_
      refine AllReadyH.cons (o := _) (by (simp only [List.getElem?_toArray]; rfl)) (fun K hK => ?_) AllReadyH.nil
      go_simp
      obtain ⟨u2, hu2, su2, nB, k7⟩ := blocks1 u1 (.cells #[.int .i64 0, .int .i64 0, .int .i64 q] 3)
      rw [← hu2]
      clear hu2 su2
      have X7 := Lib.hid (carryN k7 X6.out)
      have F7 := Lib.hid (carryN k7 F6.out)
      have D7 := Lib.hid (D6.out.below (k7.mono D6.out.lt))
      have R7 := Lib.hid (carryN k7 R6.out)
      have Q7 := Lib.hid (carryN k7 Q6.out)
      have RD7 := Lib.hid (RD6.out.below k7)
      have RW7 := Lib.hid (RW6.out.below k7)
      have K7 := Lib.hid (below_next K6.out k7)
      have hl6 := D6.out.lt
      clear k7 X6 F6 D6 R6 Q6 RD6 RW6 K6
      refine hK.out _ _ ⟨cell_of_block X7.out, cell_of_block F7.out⟩ (fun hHeld => ?_)
      clear hK K
      try simp only [Act.put, List.setIfInBounds_toArray, List.set]
      clear hHeld
      refine wpAnyH_ready (rs := [10]) (by kernel_rfl) (by simp) ?_
      refine AllReadyH.cons (o := _) (by (simp only [List.getElem?_toArray]; rfl)) (fun K hK => ?_) AllReadyH.nil
      go_simp
      refine (one_c u2 g _ u1.heap.size 3 _ [0, 0, q] _ D7.out (by omega) (by omega) nB rfl rfl (by decide) (by decide)).mono ?_
      rintro e u3 ⟨v3, hmem, rfl, r8, k8⟩
      obtain ⟨k, rfl, hk⟩ : ∃ k : Nat, v3 = (k : Int) ∧ k < y.wt.length := by
        have h : v3 = 0 ∨ v3 = q := by simpa using hmem
        rcases h with rfl | rfl
        · exact ⟨0, rfl, by omega⟩
        · exact ⟨v3.toNat, by omega, by omega⟩
      have X8 := Lib.hid (carry k8 (by have := HX.out; omega) X7.out)
      have F8 := Lib.hid (carry k8 (by have := HX.out; have := HF.out; omega) F7.out)
      have hl7x := D7.out.lt
      have D8 := Lib.hid r8
      have R8 := Lib.hid (carry k8 (by have := HX.out; omega) R7.out)
      have Q8 := Lib.hid (carry k8 (by have := HX.out; omega) Q7.out)
      have RD8 := Lib.hid (RD7.out.kept k8 (fun b hb => by have := (RD7.out.blk hb).1; intro e; injection e; omega))
      have RW8 := Lib.hid (RW7.out.kept k8 (fun b hb => by have := (RW7.out.blk hb).1; intro e; injection e; omega))
      have hsz7 := lt_of_block X7.out
      have K8 := Lib.hid (bel_grown K7.out k8 (by have := HX.out; omega))
      clear k8 r8 X7 F7 D7 R7 Q7 RD7 RW7 K7 hl7x hsz7
      clear hmem nB hl6
      refine hK.out _ _ ⟨cell_of_block X8.out, cell_of_block F8.out⟩ (fun hHeld => ?_)
      clear hK K
      try simp only [Act.put, List.setIfInBounds_toArray, List.set]
      have hk0 : (0 : Int) ≤ (k : Int) := by omega
      have hk1 : (k : Int) < ((y.wt.length : Nat) : Int) := by omega
      have e0 := (HFQ.out (k * 5) (by omega)).trans (flat_get five_len y.wt k hk 0 (by decide))
      have e1 := (HFQ.out (k * 5 + 1) (by omega)).trans (flat_get five_len y.wt k hk 1 (by decide))
      have e2 := (HFQ.out (k * 5 + 2) (by omega)).trans (flat_get five_len y.wt k hk 2 (by decide))
      have e3 := (HFQ.out (k * 5 + 3) (by omega)).trans (flat_get five_len y.wt k hk 3 (by decide))
      have e4 := (HFQ.out (k * 5 + 4) (by omega)).trans (flat_get five_len y.wt k hk 4 (by decide))
      obtain ⟨r, hr⟩ : ∃ r, r = y.wt[k] := ⟨_, rfl⟩
      rw [← hr] at e0 e1 e2 e3 e4
      replace e0 : cur[k * 5]? = some (.int .i64 r.c) := e0
      replace e1 : cur[k * 5 + 1]? = some (.int .i64 r.n) := e1
      replace e2 : cur[k * 5 + 2]? = some (.int .i64 r.o) := e2
      replace e3 : cur[k * 5 + 3]? = some (.int .i64 r.x) := e3
      replace e4 : cur[k * 5 + 4]? = some (.int .i64 r.y) := e4
      clear hr
      refine wpAnyH_take (i := 11) (oi := _) (v := ?_) (by (simp only [List.getElem?_toArray]; rfl)) (by kernel_rfl) (by kernel_rfl) (by kernel_rfl) (by exact fun _ _ _ h => h) (Or.inl ⟨by rfl, ?_⟩) (by assumption) ?_
      rotate_left
      · intro wS hSw
        go_simp
        all_goals first | with_reducible rfl | rw [if_neg (by omega)]
      simp only [Act.put, List.setIfInBounds_toArray, List.set]
      refine wpAnyH_take (i := 12) (oi := _) (v := ?_) (by (simp only [List.getElem?_toArray]; rfl)) (by kernel_rfl) (by kernel_rfl) (by kernel_rfl) (by exact fun _ _ _ h => h) (Or.inl ⟨by rfl, ?_⟩) (by assumption) ?_
      rotate_left
      · intro wS hSw
        go_simp
        all_goals first | with_reducible rfl | rw [if_neg (by omega)]
      simp only [Act.put, List.setIfInBounds_toArray, List.set]
      clear e0 e1 e2 e3 e4
      clear hHeld
      have hneF := HF.out
      have hne1 : ¬ (w.heap.size = X) := by have := HX.out; omega
      have hne2 : ¬ (w.heap.size + 1 = X) := by have := HX.out; omega
      have hne3 : ¬ (X = w.heap.size) := by have := HX.out; omega
      have hne4 : ¬ (X = w.heap.size + 1) := by have := HX.out; omega
      have cR := cell_of_block R8.out
      have fR := unfrozen_of_block R8.out
      have lR := lt_of_block R8.out
      refine wpAnyH_ready (rs := [13]) (by kernel_rfl) (by simp) ?_
      refine AllReadyH.cons (o := _) (by (simp only [List.getElem?_toArray]; rfl)) (fun K hK => ?_) AllReadyH.nil
      go_simp
      have Xs := (block_kept3 (G := w.heap.size) hne3 (.slice a0 y.dn.length c0) (.slice (some ⟨F, 0, none⟩) y.wt.length c1) (.int .i64 y.bk)).trans X8.out
      have Qs := (block_kept3 (G := w.heap.size) (show w.heap.size + 1 ≠ w.heap.size by omega) (.slice a0 y.dn.length c0) (.slice (some ⟨F, 0, none⟩) y.wt.length c1) (.int .i64 y.bk)).trans Q8.out
      have Rs := block_set3 R8.out (.slice a0 y.dn.length c0) (.slice (some ⟨F, 0, none⟩) y.wt.length c1) (.int .i64 y.bk)
      have Ks := below_set3 K8.out (Nat.le_refl _) (.slice a0 y.dn.length c0) (.slice (some ⟨F, 0, none⟩) y.wt.length c1) (.int .i64 y.bk)
      have RDs := ((RD8.out.setOther (p := ⟨w.heap.size, 0, none⟩) (by simp; have := HX.out; omega) (.slice a0 y.dn.length c0)).setOther (p := ⟨w.heap.size, 1, none⟩) (by simp; have := HX.out; omega) (.slice (some ⟨F, 0, none⟩) y.wt.length c1)).setOther (p := ⟨w.heap.size, 2, none⟩) (by simp; have := HX.out; omega) (.int .i64 y.bk)
      have RWs := ((RW8.out.setOther (p := ⟨w.heap.size, 0, none⟩) (by simp; have := HX.out; omega) (.slice a0 y.dn.length c0)).setOther (p := ⟨w.heap.size, 1, none⟩) (by simp; have := HX.out; omega) (.slice (some ⟨F, 0, none⟩) y.wt.length c1)).setOther (p := ⟨w.heap.size, 2, none⟩) (by simp; have := HX.out; omega) (.int .i64 y.bk)
      have Fs := (block_kept3 (G := w.heap.size) (show F ≠ w.heap.size by have := HX.out; have := HF.out; omega) (.slice a0 y.dn.length c0) (.slice (some ⟨F, 0, none⟩) y.wt.length c1) (.int .i64 y.bk)).trans F8.out
      obtain ⟨u4, hu4⟩ : ∃ V, V = ((u3.setCell ⟨w.heap.size, 0, none⟩ (.slice a0 y.dn.length c0)).setCell ⟨w.heap.size, 1, none⟩ (.slice (some ⟨F, 0, none⟩) y.wt.length c1)).setCell ⟨w.heap.size, 2, none⟩ (.int .i64 y.bk) := ⟨_, rfl⟩
      rw [← hu4] at Fs Xs Qs Rs Ks RDs RWs ⊢
      replace Xs := Lib.hid Xs
      replace Rs := Lib.hid Rs
      replace Ks := Lib.hid Ks
      replace RDs := Lib.hid RDs
      replace RWs := Lib.hid RWs
      have QS := Lib.hid Qs
      replace Fs := Lib.hid Fs
      clear hu4 cR fR lR Qs
      refine hK.out _ _ ⟨cell_of_block Xs.out, cell_of_block Fs.out⟩ (fun hHeld => ?_)
      clear hK K
      try simp only [Act.put, List.setIfInBounds_toArray, List.set]
      clear hHeld
      have cQ := cell_of_block QS.out
      have fQ := unfrozen_of_block QS.out
      have lQ := lt_of_block QS.out
      refine wpAnyH_ready (rs := [14]) (by kernel_rfl) (by simp) ?_
      refine AllReadyH.cons (o := _) (by (simp only [List.getElem?_toArray]; rfl)) (fun K hK => ?_) AllReadyH.nil
      go_simp
      refine hK.out _ _ ⟨cell_of_block (show _ = _ from (block_keptA (by have := HX.out; omega) _ _ _ _ _).trans Xs.out), cell_of_block (show _ = _ from (block_keptA (by have := HX.out; have := HF.out; omega) _ _ _ _ _).trans Fs.out)⟩ (fun hHeld => ?_)
      clear hK K
      try simp only [Act.put, List.setIfInBounds_toArray, List.set]
      refine wpAnyH_done (by kernel_rfl) ?_ _
      clear hHeld
      have cR := cell_of_block Rs.out
      have hr1 : ¬ (w.heap.size = w.heap.size + 1) := by omega
      go_wp2_with fail
      refine bodyPost_ret (v := .tuple #[.agg #[.slice a0 y.dn.length c0, .slice (some ⟨F, 0, none⟩) y.wt.length c1, .int .i64 y.bk], .agg #[.int .i64 r.c, .int .i64 r.n, .int .i64 r.o, .int .i64 r.x, .int .i64 r.y]]) (by simp [results, Try.results34, go_sem, cR, cQ]) rfl ?_
      refine ⟨y, r, a0, some ⟨F, 0, none⟩, c0, c1, rfl, h8, h5, ?_, ?_, below_setA Ks.out (Nat.le_succ _) _ _ _ _ _⟩
      · exact (((((RDs.out.setOther (by simp; have := HX.out; omega) _).setOther (by simp; have := HX.out; omega) _).setOther (by simp; have := HX.out; omega) _).setOther (by simp; have := HX.out; omega) _).setOther (by simp; have := HX.out; omega) _).low (by have := HX.out; omega)
      · exact (((((RWs.out.setOther (by simp; have := HX.out; omega) _).setOther (by simp; have := HX.out; omega) _).setOther (by simp; have := HX.out; omega) _).setOther (by simp; have := HX.out; omega) _).setOther (by simp; have := HX.out; omega) _).low (by have := HX.out; omega)
    · go_wp2_with fail
      refine wp_region_held_drew (S := fun w' => ∀ i, w'.cell? ⟨X, i, none⟩ = (#[.slice a0 y.dn.length c0, .slice a1 y.wt.length c1, .int .i64 y.bk] : Array Value)[i]?) (by kernel_rfl) (cell_of_block (show w4.drew.heap[X]? = _ from X4.out)) (fun hHeld => ?_)
      refine wpAnyH_take (i := 0) (oi := _) (v := ?_) (by (simp only [List.getElem?_toArray]; rfl)) (by kernel_rfl) (by kernel_rfl) (by kernel_rfl) (by exact fun _ _ _ h => h) (Or.inl ⟨by rfl, ?_⟩) (by assumption) ?_
      rotate_left
      · intro wS hSw
        go_simp
        all_goals first | with_reducible rfl | rw [if_neg (by omega)]
      simp only [Act.put, List.setIfInBounds_toArray, List.set]
      refine wpAnyH_take (i := 1) (oi := _) (v := ?_) (by (simp only [List.getElem?_toArray]; rfl)) (by kernel_rfl) (by kernel_rfl) (by kernel_rfl) (by exact fun _ _ _ h => h) (Or.inl ⟨by rfl, ?_⟩) (by assumption) ?_
      rotate_left
      · intro wS hSw
        go_simp
        all_goals first | with_reducible rfl | rw [if_neg (by omega)]
      simp only [Act.put, List.setIfInBounds_toArray, List.set]
      clear hHeld
      obtain ⟨wd, hwd, kwd⟩ : ∃ wd, wd = w4.drew ∧ Below w4.heap.size w4 wd := ⟨_, rfl, Below.drew (Below.refl _ _)⟩
      rw [← hwd]
      clear hwd
      refine wpAnyH_ready (rs := [2]) (by kernel_rfl) (by simp) ?_
      refine AllReadyH.cons (o := _) (by (simp only [List.getElem?_toArray]; rfl)) (fun K hK => ?_) AllReadyH.nil
      go_simp
      refine (l20AnyReq_c wd g _ (D4.out.below (kwd.mono D4.out.lt)) (by omega)).mono ?_
      rintro e u1 ⟨r, rfl, rr, kk⟩
      have hgw := D4.out.lt
      have hB := lt_of_block X4.out
      have Ku := Lib.hid (bel_grown (below_next K4.out kwd) kk (by have := HX.out; omega))
      have Ru := Lib.hid (carry kk (by have := HX.out; omega) (carryN kwd R4.out))
      have Qu := Lib.hid (carry kk (by have := HX.out; omega) (carryN kwd Q4.out))
      have Xu := Lib.hid (carry kk (by have := HX.out; omega) (carryN kwd X4.out))
      have RDu := Lib.hid ((RD4.out.below kwd).kept kk (fun b hb => by have := (RD4.out.blk hb).1; intro e; injection e; omega))
      have RWu := Lib.hid ((RW4.out.below kwd).kept kk (fun b hb => by have := (RW4.out.blk hb).1; intro e; injection e; omega))
      clear kk rr kwd
      refine hK.out _ _ (cell_of_block Xu.out) (fun hHeld => ?_)
      clear hK K
      try simp only [Act.put, List.setIfInBounds_toArray, List.set]
      clear hHeld
      have hne1 : ¬ (w.heap.size = X) := by have := HX.out; omega
      have hne2 : ¬ (w.heap.size + 1 = X) := by have := HX.out; omega
      have hne3 : ¬ (X = w.heap.size) := by have := HX.out; omega
      have hne4 : ¬ (X = w.heap.size + 1) := by have := HX.out; omega
      have cR := cell_of_block Ru.out
      have fR := unfrozen_of_block Ru.out
      have lR := lt_of_block Ru.out
      refine wpAnyH_ready (rs := [3]) (by kernel_rfl) (by simp) ?_
      refine AllReadyH.cons (o := _) (by (simp only [List.getElem?_toArray]; rfl)) (fun K hK => ?_) AllReadyH.nil
      go_simp
      have Xs := (block_kept3 (G := w.heap.size) hne3 (.slice a0 y.dn.length c0) (.slice a1 y.wt.length c1) (.int .i64 y.bk)).trans Xu.out
      have Qs := (block_kept3 (G := w.heap.size) (show w.heap.size + 1 ≠ w.heap.size by omega) (.slice a0 y.dn.length c0) (.slice a1 y.wt.length c1) (.int .i64 y.bk)).trans Qu.out
      have Rs := block_set3 Ru.out (.slice a0 y.dn.length c0) (.slice a1 y.wt.length c1) (.int .i64 y.bk)
      have Ks := below_set3 Ku.out (Nat.le_refl _) (.slice a0 y.dn.length c0) (.slice a1 y.wt.length c1) (.int .i64 y.bk)
      have RDs := ((RDu.out.setOther (p := ⟨w.heap.size, 0, none⟩) (by simp; have := HX.out; omega) (.slice a0 y.dn.length c0)).setOther (p := ⟨w.heap.size, 1, none⟩) (by simp; have := HX.out; omega) (.slice a1 y.wt.length c1)).setOther (p := ⟨w.heap.size, 2, none⟩) (by simp; have := HX.out; omega) (.int .i64 y.bk)
      have RWs := ((RWu.out.setOther (p := ⟨w.heap.size, 0, none⟩) (by simp; have := HX.out; omega) (.slice a0 y.dn.length c0)).setOther (p := ⟨w.heap.size, 1, none⟩) (by simp; have := HX.out; omega) (.slice a1 y.wt.length c1)).setOther (p := ⟨w.heap.size, 2, none⟩) (by simp; have := HX.out; omega) (.int .i64 y.bk)
      obtain ⟨u2, hu2⟩ : ∃ V, V = ((u1.setCell ⟨w.heap.size, 0, none⟩ (.slice a0 y.dn.length c0)).setCell ⟨w.heap.size, 1, none⟩ (.slice a1 y.wt.length c1)).setCell ⟨w.heap.size, 2, none⟩ (.int .i64 y.bk) := ⟨_, rfl⟩
      rw [← hu2] at Xs Qs Rs Ks RDs RWs ⊢
      replace Xs := Lib.hid Xs
      replace Rs := Lib.hid Rs
      replace Ks := Lib.hid Ks
      replace RDs := Lib.hid RDs
      replace RWs := Lib.hid RWs
      have QS := Lib.hid Qs
      clear hu2 cR fR lR Qs
      refine hK.out _ _ (cell_of_block Xs.out) (fun hHeld => ?_)
      clear hK K
      try simp only [Act.put, List.setIfInBounds_toArray, List.set]
      clear hHeld
      have cQ := cell_of_block QS.out
      have fQ := unfrozen_of_block QS.out
      have lQ := lt_of_block QS.out
      refine wpAnyH_ready (rs := [4]) (by kernel_rfl) (by simp) ?_
      refine AllReadyH.cons (o := _) (by (simp only [List.getElem?_toArray]; rfl)) (fun K hK => ?_) AllReadyH.nil
      go_simp
      refine hK.out _ _ (cell_of_block (show _ = _ from (block_keptA (by have := HX.out; omega) _ _ _ _ _).trans Xs.out)) (fun hHeld => ?_)
      clear hK K
      try simp only [Act.put, List.setIfInBounds_toArray, List.set]
      refine wpAnyH_done (by kernel_rfl) ?_ _
      clear hHeld
      have cR := cell_of_block Rs.out
      have hr1 : ¬ (w.heap.size = w.heap.size + 1) := by omega
      go_wp2_with fail
      refine bodyPost_ret (v := .tuple #[.agg #[.slice a0 y.dn.length c0, .slice a1 y.wt.length c1, .int .i64 y.bk], .agg #[.int .i64 r.c, .int .i64 r.n, .int .i64 r.o, .int .i64 r.x, .int .i64 r.y]]) (by simp [results, Try.results34, go_sem, cR, cQ]) rfl ?_
      refine ⟨y, r, a0, a1, c0, c1, rfl, h8, h5, ?_, ?_, below_setA Ks.out (Nat.le_succ _) _ _ _ _ _⟩
      · exact (((((RDs.out.setOther (by simp; have := HX.out; omega) _).setOther (by simp; have := HX.out; omega) _).setOther (by simp; have := HX.out; omega) _).setOther (by simp; have := HX.out; omega) _).setOther (by simp; have := HX.out; omega) _).low (by have := HX.out; omega)
      · exact (((((RWs.out.setOther (by simp; have := HX.out; omega) _).setOther (by simp; have := HX.out; omega) _).setOther (by simp; have := HX.out; omega) _).setOther (by simp; have := HX.out; omega) _).setOther (by simp; have := HX.out; omega) _).low (by have := HX.out; omega)
end Go.Proofs.Ytofedboeggdkaaa

/-! Contract of wpAhead: two that are alike are found alike; appends in guarded operations of a region; no condition. -/
namespace Go.Proofs.Ytofedboeggdkaaa
open Go.RowKit Go.Joins

set_option maxHeartbeats 1000000 in
theorem wpAhead_c (z : Ah) (a0 a1 b0 b1 : Option Addr) (c0 c1 d0 d1 : Nat) (w : World) (ha0 : IsSl w (.slice a0 z.dn.length c0) 5 Rq.cs z.dn) (ha1 : IsSl w (.slice a1 z.wt.length c1) 5 Rq.cs z.wt)
    (hb0 : IsSl w (.slice b0 z.dn.length d0) 5 Rq.cs z.dn) (hb1 : IsSl w (.slice b1 z.wt.length d1) 5 Rq.cs z.wt) :
    Calls Try.prog 26 #[.agg #[.slice a0 z.dn.length c0, .slice a1 z.wt.length c1, .int .i64 z.bk], .agg #[.slice b0 z.dn.length d0, .slice b1 z.wt.length d1, .int .i64 z.bk]] w (Yes w) := by
  have A1 := Lib.hid ha1
  have B1 := Lib.hid hb1
  clear ha1 hb1
  go_enter Try.func26, Try.ntmps26
  go_wp2_with fail
  obtain ⟨W, hW, sW, aW, bW, kW⟩ := blocks2 w (.cells #[.slice a0 z.dn.length c0, .slice a1 z.wt.length c1, .int .i64 z.bk] 30) (.cells #[.slice b0 z.dn.length d0, .slice b1 z.wt.length d1, .int .i64 z.bk] 30)
  rw [← hW]
  clear hW
  refine (wpReqs_c _ _ z.dn _ (ha0.below kW) (hb0.below kW)).mono ?_
  rintro e w1 ⟨rfl, k1⟩
  have K1 := below_next kW k1
  have hcA := cell_of_block (carryB k1 (by omega) aW)
  have hcB := cell_of_block (carryB k1 (by omega) bW)
  go_wp2_with fail
  refine (wpReqs_c _ _ z.wt _ (A1.out.below K1) (B1.out.below K1)).mono ?_
  rintro e w2 ⟨rfl, k2⟩
  have s1 := k1.size
  have hcA2 := cell_of_block (carryB k2 (by omega) (carryB k1 (by omega) aW))
  have hcB2 := cell_of_block (carryB k2 (by omega) (carryB k1 (by omega) bW))
  have K2 := below_next K1 k2
  go_wp2_with fail
  go_ret
  exact ⟨rfl, K2⟩

/-! Steps of a region whose operations are guarded, the guard being met. -/
theorem step_build0G {α : Type} {w : World} {e k bytes : Nat} {R : α → List Value} {P : Program} {ops : Array Oper} {o : Oper} {ac : Act} {K : Act → World → Prop} {Q : Exit → Act → World → Prop} {E : Prop} (hw : Region.wanted o (yielded ops ac.tmps) = true) {t : TypeId}
    (ho : o.op = .buildSlice t 0 #[]) (el : Elt P t e k bytes R) (h : K (ac.put o.dst (.slice (some ⟨w.heap.size, 0, none⟩) 0 0)) (w.alloc (.cells #[] e))) :
    if Region.wanted o (yielded ops ac.tmps) = true then Oper.wp P o ac w K Q else E := by
  rw [if_pos hw]
  obtain ⟨i, z, h2, h3, h4, h5, h6⟩ := el.info
  unfold Oper.wp
  simp [execOp, ho, Result.andThen, Instr.buildSlice, run_underlying el.under, zeroValue, sizeOf, typeInfo, h2, h3, newRow, h4, Instr.fill]
  have h0 : (Array.map (fun _ => (default : Value)) (Array.range 0)) = #[] := by simp
  rw [h0]
  exact h
theorem step_append_eltG {α : Type} {w : World} {B e k cap n : Nat} {a : Option Addr} {R : α → List Value} {zs : List α} {P : Program} {ops : Array Oper} {o : Oper} {ac : Act} {K : Act → World → Prop} {Q : Exit → Act → World → Prop} {E : Prop} (hw : Region.wanted o (yielded ops ac.tmps) = true) (s x : Operand) {t : TypeId}
    (ho : o.op = .call { callee := .builtin .append, args := #[s, x], argTypes := #[t, t] }) {bytes m : Nat} (N : Nat) (el : Elt P t e k bytes R) {ys : List α} {ay : Option Addr} {cy : Nat} (hs : ac.eval s = .slice a n cap) (hx : ac.eval x = .slice ay m cy)
    (hrow : Row w B e a cap k R zs) (hys : RowsAt w ay k R ys) (hn : zs.length = n) (hm : ys.length = m) (hN : n + m = N) (h63 : N ≤ maxLen) (hbytes : N * bytes ≤ 140737488355328) (hB : B ≤ w.heap.size)
    (h : ∀ a' cap' w', Appended w w' B e a a' cap cap' k R (zs ++ ys) → K (ac.put o.dst (.slice a' N cap')) w') :
    if Region.wanted o (yielded ops ac.tmps) = true then Oper.wp P o ac w K Q else E := by
  rw [if_pos hw]
  obtain ⟨a', cap', w', hrun, q⟩ := run_append_elt (ty := o.type) (cy := cy) el hrow hys hn hm hN h63 hbytes hB
  unfold Oper.wp
  simp [execOp, ho, resolve, invoke, builtin, hs, hx, hrun, Result.andThen]
  exact h a' cap' w' q
theorem step_append_newG {α : Type} {w : World} (B : Nat) {e k : Nat} {a : Option Addr} {R : α → List Value} {P : Program} {ops : Array Oper} {o : Oper} {ac : Act} {K : Act → World → Prop} {Q : Exit → Act → World → Prop} {E : Prop} (hw : Region.wanted o (yielded ops ac.tmps) = true) (s x : Operand) {t : TypeId}
    (ho : o.op = .call { callee := .builtin .append, args := #[s, x], argTypes := #[t, t] }) {bytes m : Nat} (el : Elt P t e k bytes R) {ys : List α} {ay : Option Addr} {cy : Nat} (hs : ac.eval s = .slice a 0 0) (hx : ac.eval x = .slice ay m cy)
    (hys : RowsAt w ay k R ys) (hm : ys.length = m) (h63 : m ≤ maxLen) (hbytes : m * bytes ≤ 140737488355328) (hB : B ≤ w.heap.size)
    (h : ∀ a' cap' w', NewRow w w' B e a' cap' k R ys → K (ac.put o.dst (.slice a' m cap')) w') :
    if Region.wanted o (yielded ops ac.tmps) = true then Oper.wp P o ac w K Q else E :=
  step_append_eltG hw s x ho m el hs hx (Row.nil w B e a k R) hys rfl hm (Nat.zero_add m) h63 hbytes hB fun a' c' w' q => h a' c' w' q.new
end Go.Proofs.Ytofedboeggdkaaa
