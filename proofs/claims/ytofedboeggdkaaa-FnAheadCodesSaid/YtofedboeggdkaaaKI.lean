/- The program's AheadGame and AheadSure; condition: small sizes. | The reference's AheadGame and AheadSure; condition: small sizes. | AheadCodes, the program's and the reference's; condition: small sizes. | The reference's AheadCodes; condition: small sizes. | The draw of what is done ahead (l20Ahead): two rows of asks and a number; condition: fewer than 2^40 reads. | What is done ahead, drawn of a code (DrawAheadGame, DrawAheadSure, DrawAheadCodes, DrawAheadPush, DrawAheadKeep): two rows of its own, and an ask; no condition but a code of bytes. | Contract of wpAhead: two that are alike are found alike; appends in guarded operations of a region; no condition. -/
import Derived.Test.YtofedboeggdkaaaKE
import Derived.Test.YtofedboeggdkaaaKH
import Derived.Test.YtofedboeggdkaaaKA
import Derived.Test.YtofedboeggdkaaaKF
import Derived.Test.YtofedboeggdkaaaKC
import Derived.Test.YtofedboeggdkaaaKB
set_option linter.unusedSimpArgs false
set_option linter.unusedVariables false
/-! The program's AheadGame and AheadSure; condition: small sizes. -/
namespace Go.Proofs.Ytofedboeggdkaaa
open Go.RowKit Go.Joins

theorem aheadB_good {z : Ah} (h : aheadB z = true) : z.dn.all good = true ∧ z.wt.all good = true ∧ z.dn.length + z.wt.length ≤ 60 := by
  have := (aheadB_iff z).1 h
  exact ⟨this.1, this.2.1, this.2.2.1⟩

theorem gameB_lens4 {z : Gm} (h : gameB z = true) : z.es.length ≤ 4 ∧ z.fl.length = 16 ∧ z.la.length = 4 := by
  have h1 := game_lensG h
  rw [gameB_iff] at h
  exact ⟨ents_le4 h.1, h1⟩

/-- The lists of a game lie apart from block M. -/
def ApartM (M : Nat) (a0 : Option Addr) (c0 : Nat) (a1 : Option Addr) (c1 : Nat) (a2 : Option Addr) (c2 : Nat) : Prop := (∀ g, rowBlk a0 c0 = some g → g ≠ M) ∧ (∀ g, rowBlk a1 c1 = some g → g ≠ M) ∧ (∀ g, rowBlk a2 c2 = some g → g ≠ M)
section
variable {w : World} {B M : Nat} {a0 a1 a2 : Option Addr} {c0 c1 c2 : Nat} {z : Gm}
theorem Own3.apartLow (h : Own3 w B a0 c0 a1 c1 a2 c2 z) (hM : w.heap.size ≤ M) : ApartM M a0 c0 a1 c1 a2 c2 :=
  ⟨fun g hg e => by have := (h.e.blk hg).2; omega, fun g hg e => by have := (h.f.blk hg).2; omega, fun g hg e => by have := (h.l.blk hg).2; omega⟩
theorem Own3.apartHigh (h : Own3 w B a0 c0 a1 c1 a2 c2 z) (hM : M < B) : ApartM M a0 c0 a1 c1 a2 c2 :=
  ⟨fun g hg e => by have := (h.e.blk hg).1; omega, fun g hg e => by have := (h.f.blk hg).1; omega, fun g hg e => by have := (h.l.blk hg).1; omega⟩
theorem Own3.setApart (h : Own3 w B a0 c0 a1 c1 a2 c2 z) (p : ApartM M a0 c0 a1 c1 a2 c2) (i : Nat) (v : Value) : Own3 (w.setCell ⟨M, i, none⟩ v) B a0 c0 a1 c1 a2 c2 z :=
  ⟨h.e.setNe (fun g hg => p.1 g hg) v, h.f.setNe (fun g hg => p.2.1 g hg) v, h.l.setNe (fun g hg => p.2.2 g hg) v, h.ef, h.el, h.fl⟩
theorem Own3.keptM {w' : World} {row : Option Nat} (h : Own3 w B a0 c0 a1 c1 a2 c2 z) (p : ApartM M a0 c0 a1 c1 a2 c2) (k : w.grownBy w' row) (hr : ∀ g, row = some g → g = M) : Own3 w' B a0 c0 a1 c1 a2 c2 z :=
  ⟨h.e.kept k (fun g hg e => p.1 g hg (hr g e)), h.f.kept k (fun g hg e => p.2.1 g hg (hr g e)), h.l.kept k (fun g hg e => p.2.2 g hg (hr g e)), h.ef, h.el, h.fl⟩
end

set_option maxRecDepth 100000 in
set_option maxHeartbeats 8000000 in
theorem AheadSure_c (z : Ah) (a0 a1 : Option Addr) (c0 c1 : Nat) (w : World) (h0 : IsSl w (.slice a0 z.dn.length c0) 5 Rq.cs z.dn) (h1 : IsSl w (.slice a1 z.wt.length c1) 5 Rq.cs z.wt) (hs : z.dn.length + z.wt.length ≤ 1048576) :
    Calls Try.prog 33 #[.agg #[.slice a0 z.dn.length c0, .slice a1 z.wt.length c1, .int .i64 z.bk]] w (GameOwn (sureA z) w) := by
  have H0 := Lib.hid h0
  have H1 := Lib.hid h1
  clear h0 h1
  go_enter Try.func33, Try.ntmps33
  go_upto_region 1 with fail
  obtain ⟨W, hW, sW, aW, rW, kW⟩ := blocks2 w (.cells #[.slice a0 z.dn.length c0, .slice a1 z.wt.length c1, .int .i64 z.bk] 30) (.cells #[.slice none 0 0, .slice none 0 0, .slice none 0 0] 46)
  rw [← hW]
  clear hW sW
  have cA := cell_of_block aW
  have lA := lt_of_block aW
  have RW := Lib.hid rW
  have AW := Lib.hid aW
  have KW := Lib.hid kW
  clear rW kW aW
  go_wp2_with fail
  refine (AheadOk_c z a0 a1 c0 c1 W (H0.out.below KW.out) (H1.out.below KW.out) hs).mono ?_
  rintro e w1 ⟨rfl, k1⟩
  have R1 := Lib.hid (carryN k1 RW.out)
  have A1 := Lib.hid (carryN k1 AW.out)
  have K1 := Lib.hid (below_next KW.out k1)
  have HS1 := Lib.hid (show w.heap.size + 2 ≤ w1.heap.size from by have := lt_of_block RW.out; have := k1.size; omega)
  clear k1 cA lA RW AW KW
  cases hg : aheadB z with
  | false =>
    have HG := Lib.hid hg
    have cR := cell_of_block R1.out
    have fR := unfrozen_of_block R1.out
    have lR := lt_of_block R1.out
    clear hg
    go_wp2_with fail
    refine bodyPost_ret (v := .agg #[.slice none 0 0, .slice none 0 0, .slice none 0 0]) (by simp [results, Try.results33, go_sem, cR]) rfl ?_
    have e : sureA z = emptyG := by unfold sureA; rw [HG.out]; rfl
    rw [e]
    exact ⟨_, rfl, (own3_nil _ _).gm, below_set3 K1.out (Nat.le_succ _) _ _ _⟩
  | true =>
    have HG := Lib.hid (aheadB_good hg)
    have HE := Lib.hid (show sureA z = foldG newG z.dn by unfold sureA; rw [if_pos hg])
    have hsz : w.heap.size + 1 ≤ w1.heap.size := by have := HS1.out; omega
    have cA := cell_of_block A1.out
    have lA := lt_of_block A1.out
    clear hg
    go_wp2_with fail
    refine wp_region_held_drew (S := fun w' => ((∀ b o, b < w.heap.size + 1 → (w').cell? ⟨b, o, none⟩ = (w1).cell? ⟨b, o, none⟩) ∧ Below (w.heap.size + 1) (w1) (w'))) (by kernel_rfl) (KeptB.drew (KeptB.refl _ _)) (fun hHeld => ?_)
    refine wpAnyH_take (i := 1) (oi := _) (v := ?_) (by (simp only [List.getElem?_toArray]; rfl)) (by kernel_rfl) (by kernel_rfl) (by kernel_rfl) (by exact fun _ _ _ h => h) (Or.inl ⟨by rfl, ?_⟩) (by assumption) ?_
    rotate_left
    · intro wS hSw
      go_simp
      all_goals first | with_reducible rfl | rw [if_neg (by omega)]
    simp only [Act.put, List.setIfInBounds_toArray, List.set]
    refine wpAnyH_take (i := 2) (oi := _) (v := ?_) (by (simp only [List.getElem?_toArray]; rfl)) (by kernel_rfl) (by kernel_rfl) (by kernel_rfl) (by exact fun _ _ _ h => h) (Or.inl ⟨by rfl, ?_⟩) (by assumption) ?_
    rotate_left
    · intro wS hSw
      go_simp
      all_goals first | with_reducible rfl | rw [if_neg (by omega)]
    simp only [Act.put, List.setIfInBounds_toArray, List.set]
    have t0 := Lib.hid (KeptB.drew (KeptB.refl w1.heap.size w1))
    clear hHeld
    refine wpAnyH_ready (rs := [0]) (by kernel_rfl) (by simp) ?_
    refine AllReadyH.cons (o := _) (by (simp only [List.getElem?_toArray]; rfl)) (fun K hK => ?_) AllReadyH.nil
    go_simp
    refine (GameNew_c _).mono ?_
    rintro e u1 ⟨f, l, rfl, hf, hl, n3, lf, ll, kk⟩
    have t1 := Lib.hid (KeptB.next (Nat.le_refl _) t0.out kk)
    have hsu := t0.out.2.size
    have O1 := Lib.hid (own3_new (B := w.heap.size) hf hl n3 (by omega) (by omega))
    clear kk hf hl n3 lf ll hsu
    refine hK.out _ _ (KeptB.weak t1.out hsz) (fun hHeld => ?_)
    clear hK K
    try simp only [Act.put, List.setIfInBounds_toArray, List.set]
    clear hHeld
    refine wpAnyH_ready (rs := [3]) (by kernel_rfl) (by simp) ?_
    refine AllReadyH.cons (o := _) (by (simp only [List.getElem?_toArray]; rfl)) (fun K hK => ?_) AllReadyH.nil
    go_simp
    refine (played_c (B := w.heap.size) newG _ _ z.dn _ O1.out.gm (by have := t1.out.2.size; omega) (H0.out.below (below_next K1.out t1.out.2)) newG_ok HG.out.1).mono ?_
    rintro e u2 ⟨v, rfl, ov, kk⟩
    obtain ⟨e0, f0, e1, f1, e2, f2, rfl, o2⟩ := ov.rows
    have t2 := Lib.hid (KeptB.next (Nat.le_refl _) t1.out kk)
    have O2 := Lib.hid o2
    have R2 := Lib.hid (carryN t2.out.2 R1.out)
    clear ov o2 kk
    refine hK.out _ _ (KeptB.weak t2.out hsz) (fun hHeld => ?_)
    clear hK K
    try simp only [Act.put, List.setIfInBounds_toArray, List.set]
    clear hHeld
    have cR := cell_of_block R2.out
    have fR := unfrozen_of_block R2.out
    have lR := lt_of_block R2.out
    refine wpAnyH_ready (rs := [4]) (by kernel_rfl) (by simp) ?_
    refine AllReadyH.cons (o := _) (by (simp only [List.getElem?_toArray]; rfl)) (fun K hK => ?_) AllReadyH.nil
    go_simp
    refine hK.out _ _ (KeptB.set (by simp) _ (KeptB.set (by simp) _ (KeptB.set (by simp) _ (KeptB.weak t2.out hsz)))) (fun hHeld => ?_)
    clear hK K
    try simp only [Act.put, List.setIfInBounds_toArray, List.set]
    refine wpAnyH_done (by kernel_rfl) ?_ _
    clear hHeld
    go_wp2_with fail
    refine bodyPost_ret (v := .agg #[.slice e0 (foldG newG z.dn).es.length f0, .slice e1 (foldG newG z.dn).fl.length f1, .slice e2 (foldG newG z.dn).la.length f2]) (by simp [results, Try.results33, go_sem, cR]) rfl ?_
    rw [HE.out]
    exact ⟨_, rfl, (O2.out.set3 R2.out _ _ _).gm, below_set3 (below_next K1.out t2.out.2) (Nat.le_succ _) _ _ _⟩

set_option maxRecDepth 100000 in
set_option maxHeartbeats 8000000 in
theorem AheadGame_c (z : Ah) (a0 a1 : Option Addr) (c0 c1 : Nat) (w : World) (h0 : IsSl w (.slice a0 z.dn.length c0) 5 Rq.cs z.dn) (h1 : IsSl w (.slice a1 z.wt.length c1) 5 Rq.cs z.wt) (hs : z.dn.length + z.wt.length ≤ 1048576) :
    Calls Try.prog 30 #[.agg #[.slice a0 z.dn.length c0, .slice a1 z.wt.length c1, .int .i64 z.bk]] w (GameOwn (gameA z) w) := by
  have H0 := Lib.hid h0
  have H1 := Lib.hid h1
  clear h0 h1
  go_enter Try.func30, Try.ntmps30
  go_upto_region 1 with fail
  obtain ⟨W, hW, sW, aW, rW, kW⟩ := blocks2 w (.cells #[.slice a0 z.dn.length c0, .slice a1 z.wt.length c1, .int .i64 z.bk] 30) (.cells #[.slice none 0 0, .slice none 0 0, .slice none 0 0] 46)
  rw [← hW]
  clear hW sW
  have cA := cell_of_block aW
  have lA := lt_of_block aW
  have RW := Lib.hid rW
  have AW := Lib.hid aW
  have KW := Lib.hid kW
  clear rW kW aW
  go_wp2_with fail
  refine (AheadOk_c z a0 a1 c0 c1 W (H0.out.below KW.out) (H1.out.below KW.out) hs).mono ?_
  rintro e w1 ⟨rfl, k1⟩
  have R1 := Lib.hid (carryN k1 RW.out)
  have A1 := Lib.hid (carryN k1 AW.out)
  have K1 := Lib.hid (below_next KW.out k1)
  have HS1 := Lib.hid (show w.heap.size + 2 ≤ w1.heap.size from by have := lt_of_block RW.out; have := k1.size; omega)
  clear k1 cA lA RW AW KW
  cases hg : aheadB z with
  | false =>
    have HG := Lib.hid hg
    have cR := cell_of_block R1.out
    have fR := unfrozen_of_block R1.out
    have lR := lt_of_block R1.out
    clear hg
    go_wp2_with fail
    refine bodyPost_ret (v := .agg #[.slice none 0 0, .slice none 0 0, .slice none 0 0]) (by simp [results, Try.results30, go_sem, cR]) rfl ?_
    have e : gameA z = emptyG := by unfold gameA; rw [HG.out]; rfl
    rw [e]
    exact ⟨_, rfl, (own3_nil _ _).gm, below_set3 K1.out (Nat.le_succ _) _ _ _⟩
  | true =>
    have HG := Lib.hid (aheadB_good hg)
    have HE := Lib.hid (show gameA z = foldG (foldG newG z.dn) z.wt by unfold gameA; rw [if_pos hg, foldG_append])
    have hsz : w.heap.size + 1 ≤ w1.heap.size := by have := HS1.out; omega
    have cA := cell_of_block A1.out
    have lA := lt_of_block A1.out
    clear hg
    go_wp2_with fail
    refine wp_region_held_drew (S := fun w' => ((∀ b o, b < w.heap.size + 1 → (w').cell? ⟨b, o, none⟩ = (w1).cell? ⟨b, o, none⟩) ∧ Below (w.heap.size + 1) (w1) (w'))) (by kernel_rfl) (KeptB.drew (KeptB.refl _ _)) (fun hHeld => ?_)
    refine wpAnyH_take (i := 1) (oi := _) (v := ?_) (by (simp only [List.getElem?_toArray]; rfl)) (by kernel_rfl) (by kernel_rfl) (by kernel_rfl) (by exact fun _ _ _ h => h) (Or.inl ⟨by rfl, ?_⟩) (by assumption) ?_
    rotate_left
    · intro wS hSw
      go_simp
      all_goals first | with_reducible rfl | rw [if_neg (by omega)]
    simp only [Act.put, List.setIfInBounds_toArray, List.set]
    refine wpAnyH_take (i := 2) (oi := _) (v := ?_) (by (simp only [List.getElem?_toArray]; rfl)) (by kernel_rfl) (by kernel_rfl) (by kernel_rfl) (by exact fun _ _ _ h => h) (Or.inl ⟨by rfl, ?_⟩) (by assumption) ?_
    rotate_left
    · intro wS hSw
      go_simp
      all_goals first | with_reducible rfl | rw [if_neg (by omega)]
    simp only [Act.put, List.setIfInBounds_toArray, List.set]
    refine wpAnyH_take (i := 4) (oi := _) (v := ?_) (by (simp only [List.getElem?_toArray]; rfl)) (by kernel_rfl) (by kernel_rfl) (by kernel_rfl) (by exact fun _ _ _ h => h) (Or.inl ⟨by rfl, ?_⟩) (by assumption) ?_
    rotate_left
    · intro wS hSw
      go_simp
      all_goals first | with_reducible rfl | rw [if_neg (by omega)]
    simp only [Act.put, List.setIfInBounds_toArray, List.set]
    refine wpAnyH_take (i := 5) (oi := _) (v := ?_) (by (simp only [List.getElem?_toArray]; rfl)) (by kernel_rfl) (by kernel_rfl) (by kernel_rfl) (by exact fun _ _ _ h => h) (Or.inl ⟨by rfl, ?_⟩) (by assumption) ?_
    rotate_left
    · intro wS hSw
      go_simp
      all_goals first | with_reducible rfl | rw [if_neg (by omega)]
    simp only [Act.put, List.setIfInBounds_toArray, List.set]
    have t0 := Lib.hid (KeptB.drew (KeptB.refl w1.heap.size w1))
    clear hHeld
    refine wpAnyH_ready (rs := [0]) (by kernel_rfl) (by simp) ?_
    refine AllReadyH.cons (o := _) (by (simp only [List.getElem?_toArray]; rfl)) (fun K hK => ?_) AllReadyH.nil
    go_simp
    refine (GameNew_c _).mono ?_
    rintro e u1 ⟨f, l, rfl, hf, hl, n3, lf, ll, kk⟩
    have t1 := Lib.hid (KeptB.next (Nat.le_refl _) t0.out kk)
    have hsu := t0.out.2.size
    have O1 := Lib.hid (own3_new (B := w.heap.size) hf hl n3 (by omega) (by omega))
    clear kk hf hl n3 lf ll hsu
    refine hK.out _ _ (KeptB.weak t1.out hsz) (fun hHeld => ?_)
    clear hK K
    try simp only [Act.put, List.setIfInBounds_toArray, List.set]
    clear hHeld
    refine wpAnyH_ready (rs := [3]) (by kernel_rfl) (by simp) ?_
    refine AllReadyH.cons (o := _) (by (simp only [List.getElem?_toArray]; rfl)) (fun K hK => ?_) AllReadyH.nil
    go_simp
    refine (played_c (B := w.heap.size) newG _ _ z.dn _ O1.out.gm (by have := t1.out.2.size; omega) (H0.out.below (below_next K1.out t1.out.2)) newG_ok HG.out.1).mono ?_
    rintro e u2 ⟨v, rfl, ov, kk⟩
    obtain ⟨e0, f0, e1, f1, e2, f2, rfl, o2⟩ := ov.rows
    have t2 := Lib.hid (KeptB.next (Nat.le_refl _) t1.out kk)
    have O2 := Lib.hid o2
    clear ov o2 kk
    refine hK.out _ _ (KeptB.weak t2.out hsz) (fun hHeld => ?_)
    clear hK K
    try simp only [Act.put, List.setIfInBounds_toArray, List.set]
    clear hHeld
    refine wpAnyH_ready (rs := [6]) (by kernel_rfl) (by simp) ?_
    refine AllReadyH.cons (o := _) (by (simp only [List.getElem?_toArray]; rfl)) (fun K hK => ?_) AllReadyH.nil
    go_simp
    refine (played_c (B := w.heap.size) (foldG newG z.dn) _ _ z.wt _ O2.out.gm (by have := t2.out.2.size; omega) (H1.out.below (below_next K1.out t2.out.2)) (foldG_new_ok HG.out.1) HG.out.2.1).mono ?_
    rintro e u3 ⟨v, rfl, ov, kk⟩
    obtain ⟨j0, l0, j1, l1, j2, l2, rfl, o3⟩ := ov.rows
    have t3 := Lib.hid (KeptB.next (Nat.le_refl _) t2.out kk)
    have O3 := Lib.hid o3
    have R3 := Lib.hid (carryN t3.out.2 R1.out)
    clear ov o3 kk
    obtain ⟨y, hy⟩ : ∃ y, y = foldG (foldG newG z.dn) z.wt := ⟨_, rfl⟩
    rw [← hy] at O3 HE ⊢
    refine hK.out _ _ (KeptB.weak t3.out hsz) (fun hHeld => ?_)
    clear hK K
    try simp only [Act.put, List.setIfInBounds_toArray, List.set]
    clear hHeld hy
    have cR := cell_of_block R3.out
    have fR := unfrozen_of_block R3.out
    have lR := lt_of_block R3.out
    refine wpAnyH_ready (rs := [7]) (by kernel_rfl) (by simp) ?_
    refine AllReadyH.cons (o := _) (by (simp only [List.getElem?_toArray]; rfl)) (fun K hK => ?_) AllReadyH.nil
    go_simp
    refine hK.out _ _ (KeptB.set (by simp) _ (KeptB.set (by simp) _ (KeptB.set (by simp) _ (KeptB.weak t3.out hsz)))) (fun hHeld => ?_)
    clear hK K
    try simp only [Act.put, List.setIfInBounds_toArray, List.set]
    refine wpAnyH_done (by kernel_rfl) ?_ _
    clear hHeld
    go_wp2_with fail
    refine bodyPost_ret (v := .agg #[.slice j0 y.es.length l0, .slice j1 y.fl.length l1, .slice j2 y.la.length l2]) (by simp [results, Try.results30, go_sem, cR]) rfl ?_
    rw [HE.out]
    exact ⟨_, rfl, (O3.out.set3 R3.out _ _ _).gm, below_set3 (below_next K1.out t3.out.2) (Nat.le_succ _) _ _ _⟩
end Go.Proofs.Ytofedboeggdkaaa

/-! The reference's AheadGame and AheadSure; condition: small sizes. -/
namespace Go.Proofs.Ytofedboeggdkaaa
open Go.RowKit Go.Joins

/-- A game in rows of its own, copied. -/
theorem copyOwn_c (y : Gm) (hy : gameB y = true) {B : Nat} {e0 e1 e2 : Option Addr} {f0 f1 f2 : Nat} (V : World) (o : Own3 V B e0 f0 e1 f1 e2 f2 y) :
    Calls Try.prog 88 #[.agg #[.slice e0 y.es.length f0, .slice e1 y.fl.length f1, .slice e2 y.la.length f2]] V (GameOwn y V) := by
  have hsm := gameB_lens4 hy
  have hb0 : y.es.length ≤ 16777216 := Nat.le_trans hsm.1 (by decide)
  have hb1 : y.fl.length ≤ 16777216 := by rw [hsm.2.1]; decide
  have hb2 : y.la.length ≤ 16777216 := by rw [hsm.2.2]; decide
  exact (l2Copy_c y e0 e1 e2 y.es.length y.fl.length y.la.length f0 f1 f2 V (o.e.sl five_len) (o.f.sl int_len) (o.l.sl int_len) hb0 hb1 hb2).mono fun e w' h => h

set_option maxRecDepth 100000 in
set_option maxHeartbeats 8000000 in
theorem sAheadSure_c (z : Ah) (a0 a1 : Option Addr) (c0 c1 : Nat) (w : World) (h0 : IsSl w (.slice a0 z.dn.length c0) 5 Rq.cs z.dn) (h1 : IsSl w (.slice a1 z.wt.length c1) 5 Rq.cs z.wt) (hs : z.dn.length + z.wt.length ≤ 1048576) :
    Calls Try.prog 57 #[.agg #[.slice a0 z.dn.length c0, .slice a1 z.wt.length c1, .int .i64 z.bk]] w (GameOwn (sureA z) w) := by
  have H0 := Lib.hid h0
  have H1 := Lib.hid h1
  clear h0 h1
  go_enter Try.func57, Try.ntmps57
  go_upto_region 1 with fail
  obtain ⟨W, hW, sW, aW, rW, kW⟩ := blocks2 w (.cells #[.slice a0 z.dn.length c0, .slice a1 z.wt.length c1, .int .i64 z.bk] 30) (.cells #[.slice none 0 0, .slice none 0 0, .slice none 0 0] 46)
  rw [← hW]
  clear hW sW
  have cA := cell_of_block aW
  have lA := lt_of_block aW
  have RW := Lib.hid rW
  have AW := Lib.hid aW
  have KW := Lib.hid kW
  clear rW kW aW
  go_wp2_with fail
  refine (l8Ok_c z a0 a1 c0 c1 W (H0.out.below KW.out) (H1.out.below KW.out) hs).mono ?_
  rintro e w1 ⟨rfl, k1⟩
  have R1 := Lib.hid (carryN k1 RW.out)
  have A1 := Lib.hid (carryN k1 AW.out)
  have K1 := Lib.hid (below_next KW.out k1)
  have HS1 := Lib.hid (show w.heap.size + 2 ≤ w1.heap.size from by have := lt_of_block RW.out; have := k1.size; omega)
  clear k1 cA lA RW AW KW
  cases hg : aheadB z with
  | false =>
    have HG := Lib.hid hg
    have cR := cell_of_block R1.out
    have fR := unfrozen_of_block R1.out
    have lR := lt_of_block R1.out
    clear hg
    go_wp2_with fail
    refine bodyPost_ret (v := .agg #[.slice none 0 0, .slice none 0 0, .slice none 0 0]) (by simp [results, Try.results57, go_sem, cR]) rfl ?_
    have e : sureA z = emptyG := by unfold sureA; rw [HG.out]; rfl
    rw [e]
    exact ⟨_, rfl, (own3_nil _ _).gm, below_set3 K1.out (Nat.le_succ _) _ _ _⟩
  | true =>
    have HG := Lib.hid (aheadB_good hg)
    have HE := Lib.hid (show sureA z = foldG newG z.dn by unfold sureA; rw [if_pos hg])
    have cA := cell_of_block A1.out
    have lA := lt_of_block A1.out
    clear hg
    go_wp2_with fail
    refine (l2Fold_c _ z.dn w1 (H0.out.below K1.out) HG.out.1).mono ?_
    rintro e w2 ⟨v, rfl, ov, k2⟩
    obtain ⟨e0, f0, e1, f1, e2, f2, rfl, o2⟩ := ov.rows
    have CC := Lib.hid (fun V (k : Below w2.heap.size w2 V) => copyOwn_c (foldG newG z.dn) (foldG_new_ok HG.out.1) V (o2.below k))
    have K2 := Lib.hid (below_next K1.out k2)
    have R2 := Lib.hid (carryN k2 R1.out)
    obtain ⟨y, hy⟩ : ∃ y, y = foldG newG z.dn := ⟨_, rfl⟩
    rw [← hy] at CC HE ⊢
    clear ov o2 k2 cA lA hy
    go_wp2_with fail
    refine (CC.out w2 (Below.refl _ _)).mono ?_
    rintro e w3 ⟨v, rfl, ov, k3⟩
    obtain ⟨j0, l0, j1, l1, j2, l2, rfl, o3⟩ := ov.rows
    have O3 := Lib.hid (o3.low (K2.out.size))
    have K3 := Lib.hid (below_next K2.out k3)
    have R3 := Lib.hid (carryN k3 R2.out)
    clear ov o3 k3
    have cR := cell_of_block R3.out
    have fR := unfrozen_of_block R3.out
    have lR := lt_of_block R3.out
    go_wp2_with fail
    refine bodyPost_ret (v := .agg #[.slice j0 y.es.length l0, .slice j1 y.fl.length l1, .slice j2 y.la.length l2]) (by simp [results, Try.results57, go_sem, cR]) rfl ?_
    rw [HE.out]
    exact ⟨_, rfl, (O3.out.set3 R3.out _ _ _).gm, below_set3 K3.out (Nat.le_succ _) _ _ _⟩

set_option maxRecDepth 100000 in
set_option maxHeartbeats 8000000 in
theorem sAheadGame_c (z : Ah) (a0 a1 : Option Addr) (c0 c1 : Nat) (w : World) (h0 : IsSl w (.slice a0 z.dn.length c0) 5 Rq.cs z.dn) (h1 : IsSl w (.slice a1 z.wt.length c1) 5 Rq.cs z.wt) (hs : z.dn.length + z.wt.length ≤ 1048576) :
    Calls Try.prog 59 #[.agg #[.slice a0 z.dn.length c0, .slice a1 z.wt.length c1, .int .i64 z.bk]] w (GameOwn (gameA z) w) := by
  have H0 := Lib.hid h0
  have H1 := Lib.hid h1
  clear h0 h1
  go_enter Try.func59, Try.ntmps59
  go_upto_region 1 with fail
  obtain ⟨W, hW, sW, aW, rW, kW⟩ := blocks2 w (.cells #[.slice a0 z.dn.length c0, .slice a1 z.wt.length c1, .int .i64 z.bk] 30) (.cells #[.slice none 0 0, .slice none 0 0, .slice none 0 0] 46)
  rw [← hW]
  clear hW sW
  have cA := cell_of_block aW
  have lA := lt_of_block aW
  have RW := Lib.hid rW
  have AW := Lib.hid aW
  have KW := Lib.hid kW
  clear rW kW aW
  go_wp2_with fail
  refine (l8Ok_c z a0 a1 c0 c1 W (H0.out.below KW.out) (H1.out.below KW.out) hs).mono ?_
  rintro e w1 ⟨rfl, k1⟩
  have R1 := Lib.hid (carryN k1 RW.out)
  have A1 := Lib.hid (carryN k1 AW.out)
  have K1 := Lib.hid (below_next KW.out k1)
  have HS1 := Lib.hid (show w.heap.size + 2 ≤ w1.heap.size from by have := lt_of_block RW.out; have := k1.size; omega)
  clear k1 cA lA RW AW KW
  cases hg : aheadB z with
  | false =>
    have HG := Lib.hid hg
    have cR := cell_of_block R1.out
    have fR := unfrozen_of_block R1.out
    have lR := lt_of_block R1.out
    clear hg
    go_wp2_with fail
    refine bodyPost_ret (v := .agg #[.slice none 0 0, .slice none 0 0, .slice none 0 0]) (by simp [results, Try.results59, go_sem, cR]) rfl ?_
    have e : gameA z = emptyG := by unfold gameA; rw [HG.out]; rfl
    rw [e]
    exact ⟨_, rfl, (own3_nil _ _).gm, below_set3 K1.out (Nat.le_succ _) _ _ _⟩
  | true =>
    have HG := Lib.hid (aheadB_good hg)
    have HE := Lib.hid (show gameA z = foldG newG (z.dn ++ z.wt) by unfold gameA; rw [if_pos hg])
    have HGA := Lib.hid (show (z.dn ++ z.wt).all good = true by rw [List.all_append, HG.out.1, HG.out.2.1]; rfl)
    have hsz : w.heap.size + 1 ≤ w1.heap.size := by have := HS1.out; omega
    have cA := cell_of_block A1.out
    have lA := lt_of_block A1.out
    obtain ⟨n0, hn0⟩ : ∃ n0, n0 = z.dn.length := ⟨_, rfl⟩
    obtain ⟨n1, hn1⟩ : ∃ n1, n1 = z.wt.length := ⟨_, rfl⟩
    have h60 : n0 + n1 ≤ 60 := by rw [hn0, hn1]; exact HG.out.2.2
    have HN0 := Lib.hid hn0.symm
    have HN1 := Lib.hid hn1.symm
    rw [← hn0] at H0 cA A1 ⊢
    rw [← hn1] at H1 cA A1 ⊢
    clear hg hn0 hn1
    go_wp2_with fail
    refine wp_region_held_drew (S := fun w' => ((∀ b o, b < w.heap.size + 1 → (w').cell? ⟨b, o, none⟩ = (w1).cell? ⟨b, o, none⟩) ∧ Below (w.heap.size + 1) (w1) (w'))) (by kernel_rfl) (KeptB.drew (KeptB.refl _ _)) (fun hHeld => ?_)
    refine wpAnyH_take (i := 1) (oi := _) (v := ?_) (by (simp only [List.getElem?_toArray]; rfl)) (by kernel_rfl) (by kernel_rfl) (by kernel_rfl) (by exact fun _ _ _ h => h) (Or.inl ⟨by rfl, ?_⟩) (by assumption) ?_
    rotate_left
    · intro wS hSw
      go_simp
      all_goals first | with_reducible rfl | rw [if_neg (by omega)]
    simp only [Act.put, List.setIfInBounds_toArray, List.set]
    refine wpAnyH_take (i := 2) (oi := _) (v := ?_) (by (simp only [List.getElem?_toArray]; rfl)) (by kernel_rfl) (by kernel_rfl) (by kernel_rfl) (by exact fun _ _ _ h => h) (Or.inl ⟨by rfl, ?_⟩) (by assumption) ?_
    rotate_left
    · intro wS hSw
      go_simp
      all_goals first | with_reducible rfl | rw [if_neg (by omega)]
    simp only [Act.put, List.setIfInBounds_toArray, List.set]
    refine wpAnyH_take (i := 4) (oi := _) (v := ?_) (by (simp only [List.getElem?_toArray]; rfl)) (by kernel_rfl) (by kernel_rfl) (by kernel_rfl) (by exact fun _ _ _ h => h) (Or.inl ⟨by rfl, ?_⟩) (by assumption) ?_
    rotate_left
    · intro wS hSw
      go_simp
      all_goals first | with_reducible rfl | rw [if_neg (by omega)]
    simp only [Act.put, List.setIfInBounds_toArray, List.set]
    refine wpAnyH_take (i := 5) (oi := _) (v := ?_) (by (simp only [List.getElem?_toArray]; rfl)) (by kernel_rfl) (by kernel_rfl) (by kernel_rfl) (by exact fun _ _ _ h => h) (Or.inl ⟨by rfl, ?_⟩) (by assumption) ?_
    rotate_left
    · intro wS hSw
      go_simp
      all_goals first | with_reducible rfl | rw [if_neg (by omega)]
    simp only [Act.put, List.setIfInBounds_toArray, List.set]
    have t0 := Lib.hid (KeptB.drew (KeptB.refl w1.heap.size w1))
    clear hHeld
    refine wpAnyH_ready (rs := [0]) (by kernel_rfl) (by simp) ?_
    refine AllReadyH.cons (o := _) (by (simp only [List.getElem?_toArray]; rfl)) (fun K hK => ?_) AllReadyH.nil
    refine step_build0 (by rfl) (by rfl) eltReq ?_
    have t1 := Lib.hid (KeptB.alloc (Nat.le_refl _) (.cells #[] 34) t0.out)
    refine hK.out _ _ (KeptB.weak t1.out hsz) (fun hHeld => ?_)
    clear hK K
    try simp only [Act.put, List.setIfInBounds_toArray, List.set]
    clear hHeld
    refine wpAnyH_ready (rs := [3]) (by kernel_rfl) (by simp) ?_
    refine AllReadyH.cons (o := _) (by (simp only [List.getElem?_toArray]; rfl)) (fun K hK => ?_) AllReadyH.nil
    refine step_append_new (w1.heap.size) (by rfl) (.tmp 7) (.tmp 9) (by rfl) eltReq (by rfl) (by rfl) ((H0.out.below K1.out).rowsAt t1.out.2) HN0.out (by simp only [maxLen]; omega) (by omega) t1.out.2.size ?_
    intro b2 d2 w2 q2
    have t2 := Lib.hid (KeptB.next (Nat.le_refl _) t1.out q2.below)
    have R2 := Lib.hid q2.row
    clear q2
    refine hK.out _ _ (KeptB.weak t2.out hsz) (fun hHeld => ?_)
    clear hK K
    try simp only [Act.put, List.setIfInBounds_toArray, List.set]
    clear hHeld
    refine wpAnyH_ready (rs := [6]) (by kernel_rfl) (by simp) ?_
    refine AllReadyH.cons (o := _) (by (simp only [List.getElem?_toArray]; rfl)) (fun K hK => ?_) AllReadyH.nil
    refine step_append_elt (by rfl) (.tmp 10) (.tmp 12) (by rfl) (n0 + n1) eltReq (by rfl) (by rfl) R2.out ((H1.out.below K1.out).rowsAt t2.out.2) HN0.out HN1.out rfl (by simp only [maxLen]; omega) (by omega) t2.out.2.size ?_
    intro b3 d3 w3 q3
    have t3 := Lib.hid (KeptB.of (t2.out.2.trans (q3.below t2.out.2.size (fun g hg => (R2.out.blk hg).1))))
    have R3 := Lib.hid (q3.row.slG five_len (show (z.dn ++ z.wt).length = n0 + n1 by rw [List.length_append, HN0.out, HN1.out]))
    clear q3
    refine hK.out _ _ (KeptB.weak t3.out hsz) (fun hHeld => ?_)
    clear hK K
    try simp only [Act.put, List.setIfInBounds_toArray, List.set]
    clear hHeld
    refine wpAnyH_ready (rs := [7]) (by kernel_rfl) (by simp) ?_
    refine AllReadyH.cons (o := _) (by (simp only [List.getElem?_toArray]; rfl)) (fun K hK => ?_) AllReadyH.nil
    go_simp
    refine (l2Fold_c _ (z.dn ++ z.wt) _ R3.out HGA.out).mono ?_
    rintro e w4 ⟨v, rfl, ov, kk⟩
    obtain ⟨e0, f0, e1, f1, e2, f2, rfl, o4⟩ := ov.rows
    have CC := Lib.hid (copyOwn_c (foldG newG (z.dn ++ z.wt)) (foldG_new_ok HGA.out) w4 o4)
    have t4 := Lib.hid (KeptB.next (Nat.le_refl _) t3.out kk)
    obtain ⟨y, hy⟩ : ∃ y, y = foldG newG (z.dn ++ z.wt) := ⟨_, rfl⟩
    rw [← hy] at CC HE ⊢
    clear ov o4 kk hy
    refine hK.out _ _ (KeptB.weak t4.out hsz) (fun hHeld => ?_)
    clear hK K
    try simp only [Act.put, List.setIfInBounds_toArray, List.set]
    clear hHeld
    refine wpAnyH_ready (rs := [8]) (by kernel_rfl) (by simp) ?_
    refine AllReadyH.cons (o := _) (by (simp only [List.getElem?_toArray]; rfl)) (fun K hK => ?_) AllReadyH.nil
    go_simp
    refine (CC.out).mono ?_
    rintro e w5 ⟨v, rfl, ov, kk⟩
    obtain ⟨j0, l0, j1, l1, j2, l2, rfl, o5⟩ := ov.rows
    have t5 := Lib.hid (KeptB.next (Nat.le_refl _) t4.out kk)
    have O5 := Lib.hid (o5.low (show w.heap.size ≤ w4.heap.size by have := t4.out.2.size; omega))
    have R5 := Lib.hid (carryN t5.out.2 R1.out)
    clear ov o5 kk
    refine hK.out _ _ (KeptB.weak t5.out hsz) (fun hHeld => ?_)
    clear hK K
    try simp only [Act.put, List.setIfInBounds_toArray, List.set]
    clear hHeld
    have cR := cell_of_block R5.out
    have fR := unfrozen_of_block R5.out
    have lR := lt_of_block R5.out
    refine wpAnyH_ready (rs := [9]) (by kernel_rfl) (by simp) ?_
    refine AllReadyH.cons (o := _) (by (simp only [List.getElem?_toArray]; rfl)) (fun K hK => ?_) AllReadyH.nil
    go_simp
    refine hK.out _ _ (KeptB.set (by simp) _ (KeptB.set (by simp) _ (KeptB.set (by simp) _ (KeptB.weak t5.out hsz)))) (fun hHeld => ?_)
    clear hK K
    try simp only [Act.put, List.setIfInBounds_toArray, List.set]
    refine wpAnyH_done (by kernel_rfl) ?_ _
    clear hHeld
    go_wp2_with fail
    refine bodyPost_ret (v := .agg #[.slice j0 y.es.length l0, .slice j1 y.fl.length l1, .slice j2 y.la.length l2]) (by simp [results, Try.results59, go_sem, cR]) rfl ?_
    rw [HE.out]
    exact ⟨_, rfl, (O5.out.set3 R5.out _ _ _).gm, below_set3 (below_next K1.out t5.out.2) (Nat.le_succ _) _ _ _⟩
end Go.Proofs.Ytofedboeggdkaaa

/-! AheadCodes, the program's and the reference's; condition: small sizes. -/
namespace Go.Proofs.Ytofedboeggdkaaa
open Go.RowKit Go.Joins

/-- Some numbers in a list of its own. -/
def IntsOwn (zs : List Int) (w : World) (e : Ending) (w' : World) : Prop :=
  ∃ (a : Option Addr) (cap : Nat), e = .returned (.slice a zs.length cap) ∧ Row w' w.heap.size 3 a cap 1 intR zs ∧ Below w.heap.size w w'
/-- Some numbers in a list of its own, without room. -/
def IntsFit (zs : List Int) (w : World) (e : Ending) (w' : World) : Prop :=
  ∃ a : Option Addr, e = .returned (.slice a zs.length zs.length) ∧ Row w' w.heap.size 3 a zs.length 1 intR zs ∧ Below w.heap.size w w'
/-- What the codes look like behind k rounds. -/
def codesAt (y : Gm) (wt : List Rq) (k : Nat) : List Int := codesG y (wt.take k) ++ List.replicate (wt.length - k) 0
theorem codesAt_length {y : Gm} {wt : List Rq} {k : Nat} (hk : k ≤ wt.length) : (codesAt y wt k).length = wt.length := by
  unfold codesAt
  rw [List.length_append, codesG_length, List.length_take, List.length_replicate]
  omega
theorem codesAt_zero (y : Gm) (wt : List Rq) : codesAt y wt 0 = List.replicate wt.length 0 := by simp [codesAt, codesG]
theorem codesAt_all (y : Gm) (wt : List Rq) : codesAt y wt wt.length = codesG y wt := by simp [codesAt]
theorem codesAt_next {y : Gm} {wt : List Rq} {k : Nat} (hk : k < wt.length) : (codesAt y wt k).set k (doG (foldG y (wt.take k)) wt[k]).2 = codesAt y wt (k + 1) := by
  unfold codesAt
  have h1 : (codesG y (wt.take k)).length = k := by rw [codesG_length, List.length_take]; omega
  have h2 : wt.length - k = (wt.length - (k + 1)) + 1 := by omega
  rw [List.take_succ_eq_append_getElem hk, codesG_snoc, h2, List.replicate_succ, List.set_append_right _ _ (by omega), h1]
  simp
theorem codesA_yes {z : Ah} (h : aheadB z = true) : codesA z = codesG (foldG newG z.dn) z.wt := by unfold codesA; rw [if_pos h]

set_option maxRecDepth 100000 in
set_option maxHeartbeats 16000000 in
theorem AheadCodes_f (z : Ah) (a0 a1 : Option Addr) (c0 c1 : Nat) (w : World) (h0 : IsSl w (.slice a0 z.dn.length c0) 5 Rq.cs z.dn) (h1 : IsSl w (.slice a1 z.wt.length c1) 5 Rq.cs z.wt) (hs : z.dn.length + z.wt.length ≤ 1048576) :
    Calls Try.prog 31 #[.agg #[.slice a0 z.dn.length c0, .slice a1 z.wt.length c1, .int .i64 z.bk]] w (IntsFit (codesA z) w) := by
  have H0 := Lib.hid h0
  have H1 := Lib.hid h1
  clear h0 h1
  go_enter Try.func31, Try.ntmps31
  go_upto_region 1 with fail
  obtain ⟨W, hW, sW, aW, kW⟩ := blocks1 w (.cells #[.slice a0 z.dn.length c0, .slice a1 z.wt.length c1, .int .i64 z.bk] 30)
  rw [← hW]
  clear hW sW
  have cA := cell_of_block aW
  have lA := lt_of_block aW
  have AW := Lib.hid aW
  have KW := Lib.hid kW
  clear kW aW
  go_wp2_with fail
  refine (AheadOk_c z a0 a1 c0 c1 W (H0.out.below KW.out) (H1.out.below KW.out) hs).mono ?_
  rintro e w1 ⟨rfl, k1⟩
  have A1 := Lib.hid (carryN k1 AW.out)
  have K1 := Lib.hid (below_next KW.out k1)
  have HS1 := Lib.hid (show w.heap.size + 1 ≤ w1.heap.size from by have := lt_of_block AW.out; have := k1.size; omega)
  clear k1 cA lA AW KW
  cases hg : aheadB z with
  | false =>
    have HG := Lib.hid hg
    clear hg
    go_wp2_with fail
    go_ret
    have e : codesA z = [] := by unfold codesA; rw [HG.out]; rfl
    rw [e]
    exact ⟨none, rfl, Row.nil _ _ _ _ _ _, K1.out⟩
  | true =>
    have HG := Lib.hid (aheadB_good hg)
    have HE := Lib.hid (codesA_yes hg)
    have HY := Lib.hid (foldG_new_ok (aheadB_good hg).1)
    have cA := cell_of_block A1.out
    have lA := lt_of_block A1.out
    obtain ⟨n, hn⟩ : ∃ n, n = z.wt.length := ⟨_, rfl⟩
    have hn60 : n ≤ 60 := by have := HG.out.2.2; omega
    have HN := Lib.hid hn
    rw [← hn] at H1 cA A1 ⊢
    obtain ⟨y, hy⟩ : ∃ y, y = foldG newG z.dn := ⟨_, rfl⟩
    have HYD := Lib.hid hy
    rw [← hy] at HE HY
    clear hg hn hy
    go_wp2_with fail
    refine wp_region_held_drew (S := fun w' => ((∀ b o, b < w1.heap.size → (w').cell? ⟨b, o, none⟩ = (w1).cell? ⟨b, o, none⟩) ∧ Below (w1.heap.size) (w1) (w'))) (by kernel_rfl) (KeptB.drew (KeptB.refl _ _)) (fun hHeld => ?_)
    refine introFin2 (X := Xs) 0 #[true, true, true, true, true, true] (fun x T => ((((((T).setIfInBounds 11 (.pointer (some ⟨w.heap.size, 0, none⟩))).setIfInBounds 12 (.slice a0 z.dn.length c0)).setIfInBounds 10 (x.v0)).setIfInBounds 13 (.agg #[.slice x.a0 y.es.length x.c0, .slice x.a1 y.fl.length x.c1, .slice x.a2 y.la.length x.c2])).setIfInBounds 3 (.pointer (some ⟨x.x, 0, none⟩)))) (fun x w' => (((∀ b o, b < w1.heap.size → (w').cell? ⟨b, o, none⟩ = (w1).cell? ⟨b, o, none⟩) ∧ Below (w1.heap.size) (w1) (w'))) ∧ w'.heap[x.x]? = some (.cells #[.slice x.a0 y.es.length x.c0, .slice x.a1 y.fl.length x.c1, .slice x.a2 y.la.length x.c2] 46 (0, 0)) ∧ w1.heap.size ≤ x.x ∧ Own3 w' w.heap.size x.a0 x.c0 x.a1 x.c1 x.a2 x.c2 y) ?_ (fun hfin => ?_)
    rotate_left
    · obtain ⟨wd, hwd, kwd⟩ : ∃ wd, wd = w1.drew ∧ Below w1.heap.size w1 wd := ⟨_, rfl, Below.drew (Below.refl _ _)⟩
      rw [← hwd] at hHeld ⊢
      clear hwd
      have RK := Lib.hid (KeptB.of kwd)
      clear kwd
      refine wpAnyH_take (i := 1) (oi := _) (v := ?_) (by (simp only [List.getElem?_toArray]; rfl)) (by kernel_rfl) (by kernel_rfl) (by kernel_rfl) (by exact fun _ _ _ h => h) (Or.inl ⟨by rfl, ?_⟩) (by assumption) ?_
      rotate_left
      · intro wS hSw
        go_simp
        all_goals first | with_reducible rfl | rw [if_neg (by omega)]
      simp only [Act.put, List.setIfInBounds_toArray, List.set]
      refine wpAnyH_take (i := 2) (oi := _) (v := ?_) (by (simp only [List.getElem?_toArray]; rfl)) (by kernel_rfl) (by kernel_rfl) (by kernel_rfl) (by exact fun _ _ _ h => h) (Or.inl ⟨by rfl, ?_⟩) (by assumption) ?_
      rotate_left
      · intro wS hSw
        go_simp
        all_goals first | with_reducible rfl | rw [if_neg (by omega)]
      simp only [Act.put, List.setIfInBounds_toArray, List.set]
      refine wpAnyH_ready (rs := [0, 4]) (by kernel_rfl) (by simp) ?_
      refine AllReadyH.cons (o := _) (by (simp only [List.getElem?_toArray]; rfl)) (fun K hK => ?_) ?_
      · skip
        go_simp
        refine (GameNew_c _).mono ?_
        rintro e wkGRK ⟨f, l, rfl, hf, hl, n3, lf, ll, kk⟩
        have hsu := RK.out.2.size
        have hsv := HS1.out
        have o2 := own3_new (B := w.heap.size) hf hl n3 (by omega) (by omega)
        have kGRK := Lib.hid (KeptB.next (Nat.le_refl _) RK.out kk)
        clear kk hf hl n3 lf ll hsu hsv
        refine hK.out _ _ kGRK.out (fun hHeld => ?_)
        clear hK K hHeld
        try simp only [Act.put, List.setIfInBounds_toArray, List.set]
        refine wpAnyH_ready (rs := [3, 4]) (by kernel_rfl) (by simp) ?_
        refine AllReadyH.cons (o := _) (by (simp only [List.getElem?_toArray]; rfl)) (fun K hK => ?_) ?_
        · skip
          go_simp
          refine (played_c (B := w.heap.size) newG _ _ z.dn _ o2.gm (by have := kGRK.out.2.size; have := HS1.out; omega) (H0.out.below (below_next K1.out kGRK.out.2)) newG_ok HG.out.1).mono ?_
          clear o2
          rintro e wkPkGRK ⟨v2, rfl, ov2, kk⟩
          rw [← HYD.out] at ov2
          obtain ⟨e0, f0, e1, f1, e2, f2, rfl, o2⟩ := ov2.rows
          clear ov2
          have kPkGRK := Lib.hid (KeptB.next (Nat.le_refl _) kGRK.out kk)
          clear kk
          refine hK.out _ _ kPkGRK.out (fun hHeld => ?_)
          clear hK K hHeld
          try simp only [Act.put, List.setIfInBounds_toArray, List.set]
          refine wpAnyH_ready (rs := [4]) (by kernel_rfl) (by simp) ?_
          refine AllReadyH.cons (o := _) (by (simp only [List.getElem?_toArray]; rfl)) (fun K hK => ?_) AllReadyH.nil
          refine step_alloc (by rfl) (by rfl) (z := .agg #[.slice none 0 0, .slice none 0 0, .slice none 0 0]) (cs := #[.slice none 0 0, .slice none 0 0, .slice none 0 0]) (by kernel_rfl) rfl ?_
          obtain ⟨wAkPkGRK, hw', sw', hv, kw'⟩ := blocks1 wkPkGRK (.cells #[.slice none 0 0, .slice none 0 0, .slice none 0 0] 46)
          rw [← hw']
          clear hw' sw'
          have kAkPkGRK := Lib.hid (KeptB.next (Nat.le_refl _) kPkGRK.out kw')
          have hvx : w1.heap.size ≤ wkPkGRK.heap.size := kPkGRK.out.2.size
          replace o2 := o2.below kw'
          clear kw'
          refine hK.out _ _ kAkPkGRK.out (fun hHeld => ?_)
          clear hK K hHeld
          try simp only [Act.put, List.setIfInBounds_toArray, List.set]
          refine wpAnyH_ready (rs := [5]) (by kernel_rfl) (by simp) ?_
          refine AllReadyH.cons (o := _) (by (simp only [List.getElem?_toArray]; rfl)) (fun K hK => ?_) AllReadyH.nil
          have cv := cell_of_block hv
          have fv := unfrozen_of_block hv
          go_simp
          have kSkAkPkGRK := Lib.hid (KeptB.set (p := ⟨wkPkGRK.heap.size, 2, none⟩) hvx (.slice e2 y.la.length f2) (KeptB.set (p := ⟨wkPkGRK.heap.size, 1, none⟩) hvx (.slice e1 y.fl.length f1) (KeptB.set (p := ⟨wkPkGRK.heap.size, 0, none⟩) hvx (.slice e0 y.es.length f0) kAkPkGRK.out)))
          replace o2 := o2.set3 hv (.slice e0 y.es.length f0) (.slice e1 y.fl.length f1) (.slice e2 y.la.length f2)
          replace hv := block_set3 hv (.slice e0 y.es.length f0) (.slice e1 y.fl.length f1) (.slice e2 y.la.length f2)
          clear cv fv
          refine hK.out _ _ kSkAkPkGRK.out (fun hHeld => ?_)
          clear hK K hHeld
          try simp only [Act.put, List.setIfInBounds_toArray, List.set]
          refine hfin ⟨.agg #[.slice none 0 0, .slice (some ⟨f, 0, none⟩) 16 16, .slice (some ⟨l, 0, none⟩) 4 4], undef, undef, e0, e1, e2, f0, f1, f2, wkPkGRK.heap.size⟩ _ _ _ (by kernel_rfl) ?_ ⟨kSkAkPkGRK.out, hv, hvx, o2⟩
          simp only [List.setIfInBounds_toArray, List.set]
        refine AllReadyH.cons (o := _) (by (simp only [List.getElem?_toArray]; rfl)) (fun K hK => ?_) ?_
        · skip
          refine step_alloc (by rfl) (by rfl) (z := .agg #[.slice none 0 0, .slice none 0 0, .slice none 0 0]) (cs := #[.slice none 0 0, .slice none 0 0, .slice none 0 0]) (by kernel_rfl) rfl ?_
          obtain ⟨wAkGRK, hw', sw', hv, kw'⟩ := blocks1 wkGRK (.cells #[.slice none 0 0, .slice none 0 0, .slice none 0 0] 46)
          rw [← hw']
          clear hw' sw'
          have kAkGRK := Lib.hid (KeptB.next (Nat.le_refl _) kGRK.out kw')
          have hvx : w1.heap.size ≤ wkGRK.heap.size := kGRK.out.2.size
          replace o2 := o2.below kw'
          clear kw'
          refine hK.out _ _ kAkGRK.out (fun hHeld => ?_)
          clear hK K hHeld
          try simp only [Act.put, List.setIfInBounds_toArray, List.set]
          refine wpAnyH_ready (rs := [3]) (by kernel_rfl) (by simp) ?_
          refine AllReadyH.cons (o := _) (by (simp only [List.getElem?_toArray]; rfl)) (fun K hK => ?_) AllReadyH.nil
          go_simp
          refine (played_c (B := w.heap.size) newG _ _ z.dn _ o2.gm (by have := kAkGRK.out.2.size; have := HS1.out; omega) (H0.out.below (below_next K1.out kAkGRK.out.2)) newG_ok HG.out.1).mono ?_
          clear o2
          rintro e wkPkAkGRK ⟨v2, rfl, ov2, kk⟩
          rw [← HYD.out] at ov2
          obtain ⟨e0, f0, e1, f1, e2, f2, rfl, o2⟩ := ov2.rows
          clear ov2
          have kPkAkGRK := Lib.hid (KeptB.next (Nat.le_refl _) kAkGRK.out kk)
          replace hv := carryN kk hv
          clear kk
          refine hK.out _ _ kPkAkGRK.out (fun hHeld => ?_)
          clear hK K hHeld
          try simp only [Act.put, List.setIfInBounds_toArray, List.set]
          refine wpAnyH_ready (rs := [5]) (by kernel_rfl) (by simp) ?_
          refine AllReadyH.cons (o := _) (by (simp only [List.getElem?_toArray]; rfl)) (fun K hK => ?_) AllReadyH.nil
          have cv := cell_of_block hv
          have fv := unfrozen_of_block hv
          go_simp
          have kSkPkAkGRK := Lib.hid (KeptB.set (p := ⟨wkGRK.heap.size, 2, none⟩) hvx (.slice e2 y.la.length f2) (KeptB.set (p := ⟨wkGRK.heap.size, 1, none⟩) hvx (.slice e1 y.fl.length f1) (KeptB.set (p := ⟨wkGRK.heap.size, 0, none⟩) hvx (.slice e0 y.es.length f0) kPkAkGRK.out)))
          replace o2 := o2.set3 hv (.slice e0 y.es.length f0) (.slice e1 y.fl.length f1) (.slice e2 y.la.length f2)
          replace hv := block_set3 hv (.slice e0 y.es.length f0) (.slice e1 y.fl.length f1) (.slice e2 y.la.length f2)
          clear cv fv
          refine hK.out _ _ kSkPkAkGRK.out (fun hHeld => ?_)
          clear hK K hHeld
          try simp only [Act.put, List.setIfInBounds_toArray, List.set]
          refine hfin ⟨.agg #[.slice none 0 0, .slice (some ⟨f, 0, none⟩) 16 16, .slice (some ⟨l, 0, none⟩) 4 4], undef, undef, e0, e1, e2, f0, f1, f2, wkGRK.heap.size⟩ _ _ _ (by kernel_rfl) ?_ ⟨kSkPkAkGRK.out, hv, hvx, o2⟩
          simp only [List.setIfInBounds_toArray, List.set]
        exact AllReadyH.nil
      refine AllReadyH.cons (o := _) (by (simp only [List.getElem?_toArray]; rfl)) (fun K hK => ?_) ?_
      · skip
        refine step_alloc (by rfl) (by rfl) (z := .agg #[.slice none 0 0, .slice none 0 0, .slice none 0 0]) (cs := #[.slice none 0 0, .slice none 0 0, .slice none 0 0]) (by kernel_rfl) rfl ?_
        obtain ⟨wARK, hw', sw', hv, kw'⟩ := blocks1 wd (.cells #[.slice none 0 0, .slice none 0 0, .slice none 0 0] 46)
        rw [← hw']
        clear hw' sw'
        have kARK := Lib.hid (KeptB.next (Nat.le_refl _) RK.out kw')
        have hvx : w1.heap.size ≤ wd.heap.size := RK.out.2.size
        clear kw'
        refine hK.out _ _ kARK.out (fun hHeld => ?_)
        clear hK K hHeld
        try simp only [Act.put, List.setIfInBounds_toArray, List.set]
        refine wpAnyH_ready (rs := [0]) (by kernel_rfl) (by simp) ?_
        refine AllReadyH.cons (o := _) (by (simp only [List.getElem?_toArray]; rfl)) (fun K hK => ?_) AllReadyH.nil
        go_simp
        refine (GameNew_c _).mono ?_
        rintro e wkGkARK ⟨f, l, rfl, hf, hl, n3, lf, ll, kk⟩
        have hsu := kARK.out.2.size
        have hsv := HS1.out
        have o2 := own3_new (B := w.heap.size) hf hl n3 (by omega) (by omega)
        have kGkARK := Lib.hid (KeptB.next (Nat.le_refl _) kARK.out kk)
        replace hv := carryN kk hv
        clear kk hf hl n3 lf ll hsu hsv
        refine hK.out _ _ kGkARK.out (fun hHeld => ?_)
        clear hK K hHeld
        try simp only [Act.put, List.setIfInBounds_toArray, List.set]
        refine wpAnyH_ready (rs := [3]) (by kernel_rfl) (by simp) ?_
        refine AllReadyH.cons (o := _) (by (simp only [List.getElem?_toArray]; rfl)) (fun K hK => ?_) AllReadyH.nil
        go_simp
        refine (played_c (B := w.heap.size) newG _ _ z.dn _ o2.gm (by have := kGkARK.out.2.size; have := HS1.out; omega) (H0.out.below (below_next K1.out kGkARK.out.2)) newG_ok HG.out.1).mono ?_
        clear o2
        rintro e wkPkGkARK ⟨v2, rfl, ov2, kk⟩
        rw [← HYD.out] at ov2
        obtain ⟨e0, f0, e1, f1, e2, f2, rfl, o2⟩ := ov2.rows
        clear ov2
        have kPkGkARK := Lib.hid (KeptB.next (Nat.le_refl _) kGkARK.out kk)
        replace hv := carryN kk hv
        clear kk
        refine hK.out _ _ kPkGkARK.out (fun hHeld => ?_)
        clear hK K hHeld
        try simp only [Act.put, List.setIfInBounds_toArray, List.set]
        refine wpAnyH_ready (rs := [5]) (by kernel_rfl) (by simp) ?_
        refine AllReadyH.cons (o := _) (by (simp only [List.getElem?_toArray]; rfl)) (fun K hK => ?_) AllReadyH.nil
        have cv := cell_of_block hv
        have fv := unfrozen_of_block hv
        go_simp
        have kSkPkGkARK := Lib.hid (KeptB.set (p := ⟨wd.heap.size, 2, none⟩) hvx (.slice e2 y.la.length f2) (KeptB.set (p := ⟨wd.heap.size, 1, none⟩) hvx (.slice e1 y.fl.length f1) (KeptB.set (p := ⟨wd.heap.size, 0, none⟩) hvx (.slice e0 y.es.length f0) kPkGkARK.out)))
        replace o2 := o2.set3 hv (.slice e0 y.es.length f0) (.slice e1 y.fl.length f1) (.slice e2 y.la.length f2)
        replace hv := block_set3 hv (.slice e0 y.es.length f0) (.slice e1 y.fl.length f1) (.slice e2 y.la.length f2)
        clear cv fv
        refine hK.out _ _ kSkPkGkARK.out (fun hHeld => ?_)
        clear hK K hHeld
        try simp only [Act.put, List.setIfInBounds_toArray, List.set]
        refine hfin ⟨.agg #[.slice none 0 0, .slice (some ⟨f, 0, none⟩) 16 16, .slice (some ⟨l, 0, none⟩) 4 4], undef, undef, e0, e1, e2, f0, f1, f2, wd.heap.size⟩ _ _ _ (by kernel_rfl) ?_ ⟨kSkPkGkARK.out, hv, hvx, o2⟩
        simp only [List.setIfInBounds_toArray, List.set]
      exact AllReadyH.nil
    rintro ⟨_, _, _, e0, e1, e2, f0, f1, f2, G⟩ w3 ⟨k3, VB, hx, o3⟩
    simp only at k3 VB hx o3 ⊢
    simp only [List.setIfInBounds_toArray, List.set]
    refine wpAnyH_done (by kernel_rfl) ?_ _
    have A3 := Lib.hid (carryN k3.2 A1.out)
    have K3 := Lib.hid (below_next K1.out k3.2)
    have HGX := Lib.hid (show w.heap.size < G by have := HS1.out; omega)
    have O3 := Lib.hid o3
    have GB := Lib.hid VB
    clear cA lA A1 K1 k3 VB o3 hx
    have cA := cell_of_block A3.out
    have lA := lt_of_block A3.out
    have hmk := make_int w3 n (by omega)
    go_wp2_with fail
    obtain ⟨w4, hw4, sw4, mB, k4⟩ := blocks1 w3 (.cells (flat intR (List.replicate n 0)) 3)
    rw [← hw4]
    clear hw4 sw4 hmk
    obtain ⟨M, hM⟩ : ∃ M, M = w3.heap.size := ⟨_, rfl⟩
    have HGM := Lib.hid (show G < M by rw [hM]; exact lt_of_block GB.out)
    have AP := Lib.hid (O3.out.apartLow (show w3.heap.size ≤ M by omega))
    have R4 := Row.of_block (B := M) (zs := List.replicate n (0 : Int)) int_len mB (by omega) (by rw [List.length_replicate]; simp only [maxLen]; omega)
    rw [List.length_replicate, ← hM] at R4
    rw [← hM]
    have A4 := Lib.hid (carryN k4 A3.out)
    have G4 := Lib.hid (carryN k4 GB.out)
    have K4 := Lib.hid (below_next K3.out k4)
    have O4 := Lib.hid (O3.out.below k4)
    have MR := Lib.hid R4
    have HM4 := Lib.hid (show M < w4.heap.size by rw [hM]; exact lt_of_block mB)
    clear cA lA A3 GB K3 O3 k4 R4 mB hM
    have cA := cell_of_block A4.out
    have lA := lt_of_block A4.out
    obtain ⟨aa, cc, he, hlc, hmx, HA0⟩ := H1.out
    injection he with he1 he2 he3
    subst he1 he3
    have HA := Lib.hid HA0
    clear HA0 he2
    have hK4 := Lib.hid K4.out.size
    go_wp2_with fail
    go_loopw [21] (fun i wr => ∃ (k : Nat) (g : Gm) (b0 b1 b2 : Option Addr) (d0 d1 d2 : Nat), k ≤ n ∧ i = .int .i64 k ∧ g = foldG y (z.wt.take k) ∧ wr.heap[G]? = some (.cells #[.slice b0 g.es.length d0, .slice b1 g.fl.length d1, .slice b2 g.la.length d2] 46 (0, 0)) ∧
        Row wr M 3 (some ⟨M, 0, none⟩) n 1 intR (codesAt y z.wt k) ∧ Own3 wr w.heap.size b0 d0 b1 d1 b2 d2 g ∧ ApartM M b0 d0 b1 d1 b2 d2 ∧ Below w.heap.size w wr ∧ M < wr.heap.size) (fun i _ => n - (intOf i).toNat)
    case atStart => exact ⟨0, y, e0, e1, e2, f0, f1, f2, Nat.zero_le _, rfl, rfl, G4.out, by rw [codesAt_zero, ← HN.out]; exact MR.out, O4.out, AP.out, K4.out, HM4.out⟩
    case round =>
      obtain ⟨k, g, b0, b1, b2, d0, d1, d2, hk, rfl, hgk, hG, hR, hO, hap, hbel, hMw⟩ := hrel
      have GR := Lib.hid hG
      have RR := Lib.hid hR
      have OR := Lib.hid hO
      have KR := Lib.hid hbel
      have APR := Lib.hid hap
      clear hG hR hO hap
      by_cases hlt : k < n
      · have hkz : k < z.wt.length := by have := HN.out; omega
        have hk1 : (k : Int) < (n : Int) := by omega
        have hk0 : (0 : Int) ≤ (k : Int) := by omega
        have hwk : IntKind.i64.wrap ((k : Int) + 1) = (k : Int) + 1 := IntWalk.i64_in _ ⟨by omega, by omega⟩
        obtain ⟨bb, oo, rfl, hl0, hc0⟩ := five_at HA.out k hkz
        obtain ⟨q0, q1, q2, q3, q4⟩ := hc0 wr hbel
        have hgood := all_getG HG.out.2.1 hkz
        have hokg : gameB g = true := by rw [hgk]; exact foldG_ok _ _ HY.out (all_takeG k HG.out.2.1)
        have hnext := foldG_take_succ y hkz
        have hcn := codesAt_next (y := y) hkz
        rw [← hgk] at hnext hcn
        obtain ⟨r, hr⟩ : ∃ r, r = z.wt[k] := ⟨_, rfl⟩
        rw [← hr] at q0 q1 q2 q3 q4 hgood hnext hcn
        have hsm := gameB_lens4 hokg
        have CD := Lib.hid (fun V (h : Own3 V w.heap.size b0 d0 b1 d1 b2 d2 g) => GameDoF_c g r b0 b1 b2 d0 d1 d2 V (h.e.sl five_len) (h.f.sl int_len) (h.l.sl int_len) (by omega))
        rw [gameDo_yes hokg hgood] at CD
        obtain ⟨p, hp⟩ : ∃ p, p = doG g r := ⟨_, rfl⟩
        rw [← hp] at CD hnext hcn
        obtain ⟨y', b'⟩ := p
        have HNX := Lib.hid hnext
        have HCN := Lib.hid hcn
        have HKZ := Lib.hid hkz
        simp only at CD HNX HCN
        clear hgood hokg hnext hcn hr hp hc0 hgk hsm hkz
        have hMl := RR.out.intAt (i := k) (by rw [codesAt_length (by have := HKZ.out; omega)]; exact HKZ.out)
        obtain ⟨gM, hgM, -, -, hcM, hfM, -⟩ := hMl
        injection hgM with hgM
        injection hgM with hgM
        subst hgM
        clear hcM hfM
        have cG := cell_of_block GR.out
        have lG := lt_of_block GR.out
        go_wp2_with fail
        obtain ⟨wa, hwa, swa, qA, ka⟩ := blocks1 wr (.cells #[.int .i64 r.c, .int .i64 r.n, .int .i64 r.o, .int .i64 r.x, .int .i64 r.y] 34)
        rw [← hwa]
        clear hwa swa
        refine (CD.out wa (OR.out.below ka)).mono ?_
        rintro e w5 ⟨i0, i1, i2, rfl, o5, kk⟩
        have k5 := below_next ka kk
        have G5 := Lib.hid (carryN k5 GR.out)
        have R5 := Lib.hid (RR.out.below k5)
        have AP5 := Lib.hid (o5.apartHigh (M := M) (Nat.lt_of_lt_of_le hMw ka.size))
        have O5 := Lib.hid (o5.low (show w.heap.size ≤ wa.heap.size from Nat.le_trans KR.out.size ka.size))
        have K5 := Lib.hid (below_next KR.out k5)
        have hM5 : M < w5.heap.size := Nat.lt_of_lt_of_le hMw k5.size
        clear ka kk k5 o5 cG lG qA q0 q1 q2 q3 q4 hbel
        have cG := cell_of_block G5.out
        have fG := unfrozen_of_block G5.out
        have lG := lt_of_block G5.out
        obtain ⟨w6, hw6⟩ : ∃ w6, w6 = (((w5.setCell ⟨G, 0, none⟩ (.slice i0 y'.es.length y'.es.length)).setCell ⟨G, 1, none⟩ (.slice i1 y'.fl.length y'.fl.length)).setCell ⟨G, 2, none⟩ (.slice i2 y'.la.length y'.la.length)) := ⟨_, rfl⟩
        have R6 := ((R5.out.setOther (p := ⟨G, 0, none⟩) HGM.out (.slice i0 y'.es.length y'.es.length)).setOther (p := ⟨G, 1, none⟩) HGM.out (.slice i1 y'.fl.length y'.fl.length)).setOther (p := ⟨G, 2, none⟩) HGM.out (.slice i2 y'.la.length y'.la.length)
        have O6 := O5.out.set3 G5.out (.slice i0 y'.es.length y'.es.length) (.slice i1 y'.fl.length y'.fl.length) (.slice i2 y'.la.length y'.la.length)
        have G6 := block_set3 G5.out (.slice i0 y'.es.length y'.es.length) (.slice i1 y'.fl.length y'.fl.length) (.slice i2 y'.la.length y'.la.length)
        have K6 := below_set3 K5.out (Nat.le_of_lt HGX.out) (.slice i0 y'.es.length y'.es.length) (.slice i1 y'.fl.length y'.fl.length) (.slice i2 y'.la.length y'.la.length)
        have S6 : w6.heap.size = w5.heap.size := by rw [hw6]; simp
        rw [← hw6] at R6 O6 G6 K6
        have hM6 : M < w6.heap.size := by rw [S6]; exact hM5
        clear S6 hM5
        have hMl := R6.intAt (i := k) (by rw [codesAt_length (by have := HKZ.out; omega)]; exact HKZ.out)
        obtain ⟨gM, hgM, -, -, hcM, hfM, -⟩ := hMl
        injection hgM with hgM
        injection hgM with hgM
        subst hgM
        rw [hw6] at hcM hfM
        have HW6 := Lib.hid hw6
        replace R6 := Lib.hid R6
        replace O6 := Lib.hid O6
        replace G6 := Lib.hid G6
        replace K6 := Lib.hid K6
        clear hw6
        go_wp2_with fail
        go_roundw
        case rel =>
          rw [← HW6.out]
          refine ⟨k + 1, y', i0, i1, i2, y'.es.length, y'.fl.length, y'.la.length, by omega, ?_, HNX.out.symm, ?_, ?_, ?_, ?_, ?_, ?_⟩
          · go_num
          · exact (Below.heap_setCell w6 _ _ G (by have := HGM.out; simp only; omega)).trans G6.out
          · rw [← HCN.out]
            exact R6.out.setInt (by rw [codesAt_length (by have := HKZ.out; omega)]; exact HKZ.out) b'
          · exact O6.out.setApart AP5.out k _
          · exact AP5.out
          · exact K6.out.setCell (by have := HGX.out; have := HGM.out; show w.heap.size ≤ M; omega) _
          · simpa using hM6
        case measure => simp [intOf]; omega
      · have hkk : k = n := by omega
        subst hkk
        clear hgk hbel
        go_wp2_with fail
        go_ret
        have hl : (codesAt y z.wt k).length = k := by rw [codesAt_length (by have := HN.out; omega)]; exact HN.out.symm
        have e : codesA z = codesAt y z.wt k := by rw [HE.out, HN.out, codesAt_all]
        rw [e]
        unfold IntsFit
        rw [hl]
        exact ⟨some ⟨M, 0, none⟩, rfl, RR.out.low (by have := HGX.out; have := HGM.out; omega), KR.out⟩
theorem AheadCodes_c (z : Ah) (a0 a1 : Option Addr) (c0 c1 : Nat) (w : World) (h0 : IsSl w (.slice a0 z.dn.length c0) 5 Rq.cs z.dn) (h1 : IsSl w (.slice a1 z.wt.length c1) 5 Rq.cs z.wt) (hs : z.dn.length + z.wt.length ≤ 1048576) :
    Calls Try.prog 31 #[.agg #[.slice a0 z.dn.length c0, .slice a1 z.wt.length c1, .int .i64 z.bk]] w (IntsOwn (codesA z) w) :=
  (AheadCodes_f z a0 a1 c0 c1 w h0 h1 hs).mono fun _ _ ⟨a, he, hr, hk⟩ => ⟨a, _, he, hr, hk⟩
end Go.Proofs.Ytofedboeggdkaaa

/-! The reference's AheadCodes; condition: small sizes. -/
namespace Go.Proofs.Ytofedboeggdkaaa
open Go.RowKit Go.Joins

theorem rowsAt_int (w : World) (c : Int) (t : TypeId) : RowsAt (w.alloc (.cells #[.int .i64 c] t)) (some ⟨w.heap.size, 0, none⟩) 1 intR [c] :=
  rows_of_block (t := t) (fr := (0, 0)) int_len (heap_alloc_new w (.cells #[.int .i64 c] t))
theorem Row.neType {α : Type} {w : World} {B e cap k G : Nat} {a : Option Addr} {R : α → List Value} {zs : List α} {cs : Array Value} {T : TypeId} {fr : Nat × Nat} (h : Row w B e a cap k R zs) (hG : w.heap[G]? = some (.cells cs T fr)) (hT : T ≠ e) : rowBlk a cap ≠ some G := by
  intro hg
  unfold rowBlk at hg
  split at hg
  · cases hg
  · obtain ⟨g', cur, rfl, -, h3, -⟩ := h.own (by omega)
    simp at hg
    subst hg
    rw [h3] at hG
    injection hG with hG
    injection hG with _ h5
    exact hT h5.symm
theorem Row.neRow {α β : Type} {w : World} {B e cap k B2 e2 cap2 k2 : Nat} {a a2 : Option Addr} {R : α → List Value} {R2 : β → List Value} {zs : List α} {ys : List β} (h : Row w B e a cap k R zs) (r : Row w B2 e2 a2 cap2 k2 R2 ys) (hT : e2 ≠ e) : ∀ g, rowBlk a2 cap2 = some g → rowBlk a cap ≠ some g := by
  intro g hg
  have hg' := hg
  unfold rowBlk at hg'
  split at hg'
  · cases hg'
  · obtain ⟨g', cur, rfl, -, h3, -⟩ := r.own (by omega)
    simp at hg'
    subst hg'
    exact h.neType h3 hT
/-- A game whose lists lie apart from a list of numbers, behind an append to that one. -/
theorem OwnX.app {w w' : World} {B B' : Nat} {a0 a1 a2 ao an : Option Addr} {c0 c1 c2 co cn : Nat} {z : Gm} {zs : List Int} (h : OwnX (fun g => rowBlk ao co = some g) w B a0 c0 a1 c1 a2 c2 z) (q : Appended w w' B' 3 ao an co cn 1 intR zs) {ys : List Int} (r : Row w B' 3 ao co 1 intR ys) :
    OwnX (fun g => rowBlk an cn = some g) w' B a0 c0 a1 c1 a2 c2 z := by
  have hE := r.neRow h.e (show 92 ≠ 3 by decide)
  refine ⟨⟨h.e.kept q.grown (fun g hg => hE g hg), h.f.kept q.grown (fun g hg e => h.no1 g hg e), h.l.kept q.grown (fun g hg e => h.no2 g hg e), h.ef, h.el, h.fl⟩, fun g hg e => ?_, fun g hg e => ?_, fun g hg => (q.row.blk hg).2⟩
  · rcases q.blk with p | p
    · exact h.no1 g hg (p ▸ e)
    · rw [p] at e
      injection e with e
      have := (h.f.blk hg).2
      omega
  · rcases q.blk with p | p
    · exact h.no2 g hg (p ▸ e)
    · rw [p] at e
      injection e with e
      have := (h.l.blk hg).2
      omega

set_option maxRecDepth 100000 in
set_option maxHeartbeats 16000000 in
theorem sAheadCodes_c (z : Ah) (a0 a1 : Option Addr) (c0 c1 : Nat) (w : World) (h0 : IsSl w (.slice a0 z.dn.length c0) 5 Rq.cs z.dn) (h1 : IsSl w (.slice a1 z.wt.length c1) 5 Rq.cs z.wt) (hs : z.dn.length + z.wt.length ≤ 1048576) :
    Calls Try.prog 47 #[.agg #[.slice a0 z.dn.length c0, .slice a1 z.wt.length c1, .int .i64 z.bk]] w (IntsOwn (codesA z) w) := by
  have H0 := Lib.hid h0
  have H1 := Lib.hid h1
  clear h0 h1
  go_enter Try.func47, Try.ntmps47
  go_wp2_with fail
  obtain ⟨W, hW, sW, aW, eW, kW⟩ := blocks2 w (.cells #[.slice a0 z.dn.length c0, .slice a1 z.wt.length c1, .int .i64 z.bk] 30) (.cells #[] 3)
  rw [← hW]
  clear hW eW
  have AW := Lib.hid aW
  have KW := Lib.hid kW
  have SW := Lib.hid sW
  clear kW aW sW
  refine (l8Ok_c z a0 a1 c0 c1 W (H0.out.below KW.out) (H1.out.below KW.out) hs).mono ?_
  rintro e w1 ⟨rfl, k1⟩
  have A1 := Lib.hid (carryN k1 AW.out)
  have K1 := Lib.hid k1
  clear k1
  cases hg : aheadB z with
  | false =>
    have HG := Lib.hid hg
    clear hg
    go_wp2_with fail
    go_ret
    have e : codesA z = [] := by unfold codesA; rw [HG.out]; rfl
    rw [e]
    exact ⟨some ⟨w.heap.size + 1, 0, none⟩, 0, rfl, Row.nil _ _ _ _ _ _, below_next KW.out K1.out⟩
  | true =>
    have HG := Lib.hid (aheadB_good hg)
    have HE := Lib.hid (codesA_yes hg)
    have HY := Lib.hid (foldG_new_ok (aheadB_good hg).1)
    have cA := cell_of_block A1.out
    have lA := lt_of_block A1.out
    obtain ⟨n, hn⟩ : ∃ n, n = z.wt.length := ⟨_, rfl⟩
    have hn60 : n ≤ 60 := by have := HG.out.2.2; omega
    have HN := Lib.hid hn
    rw [← hn] at H1 cA A1 AW ⊢
    obtain ⟨y, hy⟩ : ∃ y, y = foldG newG z.dn := ⟨_, rfl⟩
    have HYD := Lib.hid hy
    rw [← hy] at HE HY
    clear hg hn hy
    go_wp2_with fail
    refine (l2Fold_c _ z.dn w1 (H0.out.below (below_next KW.out K1.out)) HG.out.1).mono ?_
    rw [← HYD.out]
    rintro e w2 ⟨v, rfl, ov, k2⟩
    obtain ⟨e0, f0, e1, f1, e2, f2, rfl, o2⟩ := ov.rows
    have K2 := Lib.hid (below_next K1.out k2)
    have A2 := Lib.hid (carryN k2 A1.out)
    have O2 := Lib.hid (o2.low (show W.heap.size ≤ w1.heap.size from K1.out.size))
    clear ov o2 k2 cA lA A1
    have cA := cell_of_block A2.out
    have lA := lt_of_block A2.out
    go_wp2_with fail
    obtain ⟨w3, hw3, sw3, gB, k3⟩ := blocks1 w2 (.cells #[.slice e0 y.es.length f0, .slice e1 y.fl.length f1, .slice e2 y.la.length f2] 46)
    rw [← hw3]
    clear hw3 sw3
    obtain ⟨G, hG⟩ : ∃ G, G = w2.heap.size := ⟨_, rfl⟩
    have HGW := Lib.hid (show W.heap.size ≤ G by rw [hG]; exact K2.out.size)
    rw [← hG] at gB ⊢
    clear hG
    have G3 := Lib.hid gB
    have K3 := Lib.hid (below_next K2.out k3)
    have O3 := Lib.hid (O2.out.below k3)
    have A3 := Lib.hid (carryN k3 A2.out)
    clear k3 gB cA lA A2 O2 K2
    obtain ⟨aa, cc, he, hlc, hmx, HA0⟩ := H1.out
    injection he with he1 he2 he3
    subst he1 he3
    have HA := Lib.hid HA0
    unfold maxLen at hmx
    clear HA0 he2
    go_loopw [3, 5] (fun out i wr => ∃ (k : Nat) (g : Gm) (b0 b1 b2 ao : Option Addr) (d0 d1 d2 co : Nat), k ≤ n ∧ i = .int .i64 k ∧ out = .slice ao k co ∧ g = foldG y (z.wt.take k) ∧ wr.heap[G]? = some (.cells #[.slice b0 g.es.length d0, .slice b1 g.fl.length d1, .slice b2 g.la.length d2] 46 (0, 0)) ∧
        Row wr W.heap.size 3 ao co 1 intR (codesG y (z.wt.take k)) ∧ OwnX (fun h => rowBlk ao co = some h) wr W.heap.size b0 d0 b1 d1 b2 d2 g ∧ Below W.heap.size W wr) (fun _ i _ => n - (intOf i).toNat)
    case atStart => exact ⟨0, y, e0, e1, e2, some ⟨w.heap.size + 1, 0, none⟩, f0, f1, f2, 0, Nat.zero_le _, rfl, rfl, rfl, G3.out, Row.nil _ _ _ _ _ _, ⟨O3.out, fun g hg h => by simp [rowBlk] at h, fun g hg h => by simp [rowBlk] at h, fun g h => by simp [rowBlk] at h⟩, K3.out⟩
    case round =>
      obtain ⟨k, g, b0, b1, b2, ao, d0, d1, d2, co, hk, rfl, rfl, hgk, hG, hR, hO, hbelW⟩ := hrel
      have hgR := Lib.hid hR
      have OV := Lib.hid hO
      have GR := Lib.hid hG
      have KV := Lib.hid hbelW
      have hbel := below_next KW.out hbelW
      have AR := Lib.hid ((hbelW.block w.heap.size (lt_of_block AW.out)).trans AW.out)
      have cA := cell_of_block AR.out
      have lA := lt_of_block AR.out
      clear hbelW hR hO
      by_cases hlt : k < n
      · have hkz : k < z.wt.length := by have := HN.out; omega
        have hk1 : (k : Int) < (n : Int) := by omega
        have hk0 : (0 : Int) ≤ (k : Int) := by omega
        have hwk : IntKind.i64.wrap ((k : Int) + 1) = (k : Int) + 1 := IntWalk.i64_in _ ⟨by omega, by omega⟩
        obtain ⟨bb, oo, rfl, hl0, hc0⟩ := five_at HA.out k hkz
        obtain ⟨q0, q1, q2, q3, q4⟩ := hc0 wr hbel
        have hlr : bb < wr.heap.size := Nat.lt_of_lt_of_le hl0 hbel.size
        have hgood := all_getG HG.out.2.1 hkz
        have hokg : gameB g = true := by rw [hgk]; exact foldG_ok _ _ HY.out (all_takeG k HG.out.2.1)
        have hnext := foldG_take_succ y hkz
        have hcn : codesG y (z.wt.take (k + 1)) = codesG y (z.wt.take k) ++ [(doG (foldG y (z.wt.take k)) z.wt[k]).2] := by rw [List.take_succ_eq_append_getElem hkz, codesG_snoc]
        rw [← hgk] at hnext hcn
        obtain ⟨r, hr⟩ : ∃ r, r = z.wt[k] := ⟨_, rfl⟩
        rw [← hr] at q0 q1 q2 q3 q4 hgood hnext hcn
        have CD := Lib.hid (fun v V h hB => l2Do_x (B := W.heap.size) (X := fun h => rowBlk ao co = some h) g r v V h hB hokg hgood)
        obtain ⟨p, hp⟩ : ∃ p, p = doG g r := ⟨_, rfl⟩
        rw [← hp] at CD hnext hcn
        obtain ⟨y', b⟩ := p
        have HX := Lib.hid hnext
        have HCN := Lib.hid hcn
        have HCL := Lib.hid (show (codesG y (z.wt.take k)).length = k by rw [codesG_length, List.length_take]; omega)
        have hB := Lib.hid KV.out.size
        clear hgood hokg hnext hcn hr hp hc0 hl0 hgk
        have cG := cell_of_block hG
        have lG := lt_of_block hG
        simp only at CD HX HCN
        go_wp2_with fail
        refine wp_region_held_drew (S := fun w' => ((∀ b o, b < wr.heap.size → (w').cell? ⟨b, o, none⟩ = (wr).cell? ⟨b, o, none⟩) ∧ Below (wr.heap.size) (wr) (w'))) (by kernel_rfl) (KeptB.drew (KeptB.refl _ _)) (fun hHeld => ?_)
        refine introFin2 (X := Xs) 0 #[true, true, true, true, true, true, true, true, true, true, true, true, true] (fun x T => ((((((((((((T).setIfInBounds 24 (.agg #[.slice b0 g.es.length d0, .slice b1 g.fl.length d1, .slice b2 g.la.length d2])).setIfInBounds 25 (.pointer (some ⟨w.heap.size, 1, none⟩))).setIfInBounds 26 (.slice (some ⟨bb, oo, none⟩) n c1)).setIfInBounds 27 (.int .i64 k)).setIfInBounds 28 (.pointer (some ⟨bb, oo + k * 5, none⟩))).setIfInBounds 29 (.agg #[.int .i64 r.c, .int .i64 r.n, .int .i64 r.o, .int .i64 r.x, .int .i64 r.y])).setIfInBounds 30 (.tuple #[.agg #[.slice x.a0 y'.es.length x.c0, .slice x.a1 y'.fl.length x.c1, .slice x.a2 y'.la.length x.c2], .int .i64 b])).setIfInBounds 23 (.tuple #[.agg #[.slice x.a0 y'.es.length x.c0, .slice x.a1 y'.fl.length x.c1, .slice x.a2 y'.la.length x.c2], .int .i64 b])).setIfInBounds 31 (.agg #[.slice x.a0 y'.es.length x.c0, .slice x.a1 y'.fl.length x.c1, .slice x.a2 y'.la.length x.c2])).setIfInBounds 32 (.int .i64 b)).setIfInBounds 6 (.pointer (some ⟨x.x, 0, none⟩))).setIfInBounds 7 (.int .i64 b)) (fun x w' => (((∀ b o, b < wr.heap.size → (w').cell? ⟨b, o, none⟩ = (wr).cell? ⟨b, o, none⟩) ∧ Below (wr.heap.size) (wr) (w'))) ∧ w'.heap[x.x]? = some (.cells #[.slice x.a0 y'.es.length x.c0, .slice x.a1 y'.fl.length x.c1, .slice x.a2 y'.la.length x.c2] 46 (0, 0)) ∧ wr.heap.size ≤ x.x ∧ OwnX (fun h => rowBlk ao co = some h) w' W.heap.size x.a0 x.c0 x.a1 x.c1 x.a2 x.c2 y') ?_ (fun hfin => ?_)
        rotate_left
        · obtain ⟨wd, hwd, kwd⟩ : ∃ wd, wd = wr.drew ∧ Below wr.heap.size wr wd := ⟨_, rfl, Below.drew (Below.refl _ _)⟩
          rw [← hwd] at hHeld ⊢
          clear hwd
          have RK := Lib.hid (KeptB.of kwd)
          clear kwd
          refine wpAnyH_take (i := 0) (oi := _) (v := ?_) (by (simp only [List.getElem?_toArray]; rfl)) (by kernel_rfl) (by kernel_rfl) (by kernel_rfl) (by exact fun _ _ _ h => h) (Or.inl ⟨by rfl, ?_⟩) (by assumption) ?_
          rotate_left
          · intro wS hSw
            go_simp
            all_goals first | with_reducible rfl | rw [if_neg (by omega)]
          simp only [Act.put, List.setIfInBounds_toArray, List.set]
          refine wpAnyH_take (i := 1) (oi := _) (v := ?_) (by (simp only [List.getElem?_toArray]; rfl)) (by kernel_rfl) (by kernel_rfl) (by kernel_rfl) (by exact fun _ _ _ h => h) (Or.inl ⟨by rfl, ?_⟩) (by assumption) ?_
          rotate_left
          · intro wS hSw
            go_simp
            all_goals first | with_reducible rfl | rw [if_neg (by omega)]
          simp only [Act.put, List.setIfInBounds_toArray, List.set]
          refine wpAnyH_take (i := 2) (oi := _) (v := ?_) (by (simp only [List.getElem?_toArray]; rfl)) (by kernel_rfl) (by kernel_rfl) (by kernel_rfl) (by exact fun _ _ _ h => h) (Or.inl ⟨by rfl, ?_⟩) (by assumption) ?_
          rotate_left
          · intro wS hSw
            go_simp
            all_goals first | with_reducible rfl | rw [if_neg (by omega)]
          simp only [Act.put, List.setIfInBounds_toArray, List.set]
          refine wpAnyH_take (i := 3) (oi := _) (v := ?_) (by (simp only [List.getElem?_toArray]; rfl)) (by kernel_rfl) (by kernel_rfl) (by kernel_rfl) (by exact fun _ _ _ h => h) (Or.inl ⟨by rfl, ?_⟩) (by assumption) ?_
          rotate_left
          · intro wS hSw
            go_simp
            all_goals first | with_reducible rfl | rw [if_neg (by omega)]
          simp only [Act.put, List.setIfInBounds_toArray, List.set]
          refine wpAnyH_take (i := 4) (oi := _) (v := ?_) (by (simp only [List.getElem?_toArray]; rfl)) (by kernel_rfl) (by kernel_rfl) (by kernel_rfl) (by exact fun _ _ _ h => h) (Or.inl ⟨by rfl, ?_⟩) (by assumption) ?_
          rotate_left
          · intro wS hSw
            go_simp
            all_goals first | with_reducible rfl | rw [if_neg (by omega)]
          simp only [Act.put, List.setIfInBounds_toArray, List.set]
          refine wpAnyH_take (i := 5) (oi := _) (v := ?_) (by (simp only [List.getElem?_toArray]; rfl)) (by kernel_rfl) (by kernel_rfl) (by kernel_rfl) (by exact fun _ _ _ h => h) (Or.inl ⟨by rfl, ?_⟩) (by assumption) ?_
          rotate_left
          · intro wS hSw
            go_simp
            all_goals first | with_reducible rfl | rw [if_neg (by omega)]
          simp only [Act.put, List.setIfInBounds_toArray, List.set]
          refine wpAnyH_ready (rs := [6, 10]) (by kernel_rfl) (by simp) ?_
          refine AllReadyH.cons (o := _) (by (simp only [List.getElem?_toArray]; rfl)) (fun K hK => ?_) ?_
          · skip
            go_simp
            refine (CD.out _ _ ((OV.out.below RK.out.2).gm) (Nat.le_trans hB.out RK.out.2.size)).mono ?_
            rintro e wkCRK ⟨v2, rfl, ov2, kk⟩
            obtain ⟨e0, f0, e1, f1, e2, f2, rfl, o2⟩ := ov2.rows
            clear ov2
            have kCRK := Lib.hid (KeptB.next (Nat.le_refl _) RK.out kk)
            clear kk
            refine hK.out _ _ kCRK.out (fun hHeld => ?_)
            clear hK K hHeld
            try simp only [Act.put, List.setIfInBounds_toArray, List.set]
            refine wpAnyH_take (i := 7) (oi := _) (v := ?_) (by (simp only [List.getElem?_toArray]; rfl)) (by kernel_rfl) (by kernel_rfl) (by kernel_rfl) (by exact fun _ _ _ h => h) (Or.inl ⟨by rfl, ?_⟩) (by assumption) ?_
            rotate_left
            · intro wS hSw
              go_simp
              all_goals first | with_reducible rfl | rw [if_neg (by omega)]
            simp only [Act.put, List.setIfInBounds_toArray, List.set]
            refine wpAnyH_take (i := 8) (oi := _) (v := ?_) (by (simp only [List.getElem?_toArray]; rfl)) (by kernel_rfl) (by kernel_rfl) (by kernel_rfl) (by exact fun _ _ _ h => h) (Or.inl ⟨by rfl, ?_⟩) (by assumption) ?_
            rotate_left
            · intro wS hSw
              go_simp
              all_goals first | with_reducible rfl | rw [if_neg (by omega)]
            simp only [Act.put, List.setIfInBounds_toArray, List.set]
            refine wpAnyH_take (i := 9) (oi := _) (v := ?_) (by (simp only [List.getElem?_toArray]; rfl)) (by kernel_rfl) (by kernel_rfl) (by kernel_rfl) (by exact fun _ _ _ h => h) (Or.inl ⟨by rfl, ?_⟩) (by assumption) ?_
            rotate_left
            · intro wS hSw
              go_simp
              all_goals first | with_reducible rfl | rw [if_neg (by omega)]
            simp only [Act.put, List.setIfInBounds_toArray, List.set]
            refine wpAnyH_ready (rs := [10]) (by kernel_rfl) (by simp) ?_
            refine AllReadyH.cons (o := _) (by (simp only [List.getElem?_toArray]; rfl)) (fun K hK => ?_) AllReadyH.nil
            refine step_alloc (by rfl) (by rfl) (z := .agg #[.slice none 0 0, .slice none 0 0, .slice none 0 0]) (cs := #[.slice none 0 0, .slice none 0 0, .slice none 0 0]) (by kernel_rfl) rfl ?_
            obtain ⟨wAkCRK, hw', sw', hv, kw'⟩ := blocks1 wkCRK (.cells #[.slice none 0 0, .slice none 0 0, .slice none 0 0] 46)
            rw [← hw']
            clear hw' sw'
            have kAkCRK := Lib.hid (KeptB.next (Nat.le_refl _) kCRK.out kw')
            have hvx : wr.heap.size ≤ wkCRK.heap.size := kCRK.out.2.size
            replace o2 := o2.below kw'
            clear kw'
            refine hK.out _ _ kAkCRK.out (fun hHeld => ?_)
            clear hK K hHeld
            try simp only [Act.put, List.setIfInBounds_toArray, List.set]
            refine wpAnyH_ready (rs := [11]) (by kernel_rfl) (by simp) ?_
            refine AllReadyH.cons (o := _) (by (simp only [List.getElem?_toArray]; rfl)) (fun K hK => ?_) AllReadyH.nil
            have cv := cell_of_block hv
            have fv := unfrozen_of_block hv
            go_simp
            have kSkAkCRK := Lib.hid (KeptB.set (p := ⟨wkCRK.heap.size, 2, none⟩) hvx (.slice e2 y'.la.length f2) (KeptB.set (p := ⟨wkCRK.heap.size, 1, none⟩) hvx (.slice e1 y'.fl.length f1) (KeptB.set (p := ⟨wkCRK.heap.size, 0, none⟩) hvx (.slice e0 y'.es.length f0) kAkCRK.out)))
            replace o2 := o2.set3 hv (.slice e0 y'.es.length f0) (.slice e1 y'.fl.length f1) (.slice e2 y'.la.length f2)
            replace hv := block_set3 hv (.slice e0 y'.es.length f0) (.slice e1 y'.fl.length f1) (.slice e2 y'.la.length f2)
            clear cv fv
            refine hK.out _ _ kSkAkCRK.out (fun hHeld => ?_)
            clear hK K hHeld
            try simp only [Act.put, List.setIfInBounds_toArray, List.set]
            refine wpAnyH_take (i := 12) (oi := _) (v := ?_) (by (simp only [List.getElem?_toArray]; rfl)) (by kernel_rfl) (by kernel_rfl) (by kernel_rfl) (by exact fun _ _ _ h => h) (Or.inl ⟨by rfl, ?_⟩) (by assumption) ?_
            rotate_left
            · intro wS hSw
              go_simp
              all_goals first | with_reducible rfl | rw [if_neg (by omega)]
            simp only [Act.put, List.setIfInBounds_toArray, List.set]
            refine hfin ⟨undef, undef, undef, e0, e1, e2, f0, f1, f2, wkCRK.heap.size⟩ _ _ _ (by kernel_rfl) ?_ ⟨kSkAkCRK.out, hv, hvx, o2⟩
            simp only [List.setIfInBounds_toArray, List.set]
          refine AllReadyH.cons (o := _) (by (simp only [List.getElem?_toArray]; rfl)) (fun K hK => ?_) ?_
          · skip
            refine step_alloc (by rfl) (by rfl) (z := .agg #[.slice none 0 0, .slice none 0 0, .slice none 0 0]) (cs := #[.slice none 0 0, .slice none 0 0, .slice none 0 0]) (by kernel_rfl) rfl ?_
            obtain ⟨wARK, hw', sw', hv, kw'⟩ := blocks1 wd (.cells #[.slice none 0 0, .slice none 0 0, .slice none 0 0] 46)
            rw [← hw']
            clear hw' sw'
            have kARK := Lib.hid (KeptB.next (Nat.le_refl _) RK.out kw')
            have hvx : wr.heap.size ≤ wd.heap.size := RK.out.2.size
            clear kw'
            refine hK.out _ _ kARK.out (fun hHeld => ?_)
            clear hK K hHeld
            try simp only [Act.put, List.setIfInBounds_toArray, List.set]
            refine wpAnyH_ready (rs := [6]) (by kernel_rfl) (by simp) ?_
            refine AllReadyH.cons (o := _) (by (simp only [List.getElem?_toArray]; rfl)) (fun K hK => ?_) AllReadyH.nil
            go_simp
            refine (CD.out _ _ ((OV.out.below kARK.out.2).gm) (Nat.le_trans hB.out kARK.out.2.size)).mono ?_
            rintro e wkCkARK ⟨v2, rfl, ov2, kk⟩
            obtain ⟨e0, f0, e1, f1, e2, f2, rfl, o2⟩ := ov2.rows
            clear ov2
            have kCkARK := Lib.hid (KeptB.next (Nat.le_refl _) kARK.out kk)
            replace hv := carryN kk hv
            clear kk
            refine hK.out _ _ kCkARK.out (fun hHeld => ?_)
            clear hK K hHeld
            try simp only [Act.put, List.setIfInBounds_toArray, List.set]
            refine wpAnyH_take (i := 7) (oi := _) (v := ?_) (by (simp only [List.getElem?_toArray]; rfl)) (by kernel_rfl) (by kernel_rfl) (by kernel_rfl) (by exact fun _ _ _ h => h) (Or.inl ⟨by rfl, ?_⟩) (by assumption) ?_
            rotate_left
            · intro wS hSw
              go_simp
              all_goals first | with_reducible rfl | rw [if_neg (by omega)]
            simp only [Act.put, List.setIfInBounds_toArray, List.set]
            refine wpAnyH_take (i := 8) (oi := _) (v := ?_) (by (simp only [List.getElem?_toArray]; rfl)) (by kernel_rfl) (by kernel_rfl) (by kernel_rfl) (by exact fun _ _ _ h => h) (Or.inl ⟨by rfl, ?_⟩) (by assumption) ?_
            rotate_left
            · intro wS hSw
              go_simp
              all_goals first | with_reducible rfl | rw [if_neg (by omega)]
            simp only [Act.put, List.setIfInBounds_toArray, List.set]
            refine wpAnyH_take (i := 9) (oi := _) (v := ?_) (by (simp only [List.getElem?_toArray]; rfl)) (by kernel_rfl) (by kernel_rfl) (by kernel_rfl) (by exact fun _ _ _ h => h) (Or.inl ⟨by rfl, ?_⟩) (by assumption) ?_
            rotate_left
            · intro wS hSw
              go_simp
              all_goals first | with_reducible rfl | rw [if_neg (by omega)]
            simp only [Act.put, List.setIfInBounds_toArray, List.set]
            refine wpAnyH_ready (rs := [11]) (by kernel_rfl) (by simp) ?_
            refine AllReadyH.cons (o := _) (by (simp only [List.getElem?_toArray]; rfl)) (fun K hK => ?_) AllReadyH.nil
            have cv := cell_of_block hv
            have fv := unfrozen_of_block hv
            go_simp
            have kSkCkARK := Lib.hid (KeptB.set (p := ⟨wd.heap.size, 2, none⟩) hvx (.slice e2 y'.la.length f2) (KeptB.set (p := ⟨wd.heap.size, 1, none⟩) hvx (.slice e1 y'.fl.length f1) (KeptB.set (p := ⟨wd.heap.size, 0, none⟩) hvx (.slice e0 y'.es.length f0) kCkARK.out)))
            replace o2 := o2.set3 hv (.slice e0 y'.es.length f0) (.slice e1 y'.fl.length f1) (.slice e2 y'.la.length f2)
            replace hv := block_set3 hv (.slice e0 y'.es.length f0) (.slice e1 y'.fl.length f1) (.slice e2 y'.la.length f2)
            clear cv fv
            refine hK.out _ _ kSkCkARK.out (fun hHeld => ?_)
            clear hK K hHeld
            try simp only [Act.put, List.setIfInBounds_toArray, List.set]
            refine wpAnyH_take (i := 12) (oi := _) (v := ?_) (by (simp only [List.getElem?_toArray]; rfl)) (by kernel_rfl) (by kernel_rfl) (by kernel_rfl) (by exact fun _ _ _ h => h) (Or.inl ⟨by rfl, ?_⟩) (by assumption) ?_
            rotate_left
            · intro wS hSw
              go_simp
              all_goals first | with_reducible rfl | rw [if_neg (by omega)]
            simp only [Act.put, List.setIfInBounds_toArray, List.set]
            refine hfin ⟨undef, undef, undef, e0, e1, e2, f0, f1, f2, wd.heap.size⟩ _ _ _ (by kernel_rfl) ?_ ⟨kSkCkARK.out, hv, hvx, o2⟩
            simp only [List.setIfInBounds_toArray, List.set]
          exact AllReadyH.nil
        rintro ⟨_, _, _, e0, e1, e2, f0, f1, f2, P⟩ w9 ⟨k9, VB, hx, o2⟩
        simp only at k9 VB hx o2 ⊢
        simp only [List.setIfInBounds_toArray, List.set]
        refine wpAnyH_done (by kernel_rfl) ?_ _
        have G9 := Lib.hid (carryN k9.2 GR.out)
        have A9 := Lib.hid (carryN k9.2 AR.out)
        have K9 := Lib.hid (KV.out.trans (k9.2.mono hB.out))
        have R9 := Lib.hid (hgR.out.below k9.2)
        have O9 := Lib.hid o2
        have PB := Lib.hid VB
        have hGl := lt_of_block hG
        have hne : P ≠ G := by omega
        have hne' : G ≠ P := by omega
        clear cG lG hG hgR OV k9 o2 KV q0 q1 q2 q3 q4 hlr cA lA GR AR hbel hx VB
        have cG := cell_of_block G9.out
        have fG := unfrozen_of_block G9.out
        have lG := lt_of_block G9.out
        have cP := cell_of_block PB.out
        have lP := lt_of_block PB.out
        go_upto_region 10 with fail
        have G10 := block_set3 G9.out (.slice e0 y'.es.length f0) (.slice e1 y'.fl.length f1) (.slice e2 y'.la.length f2)
        have O10 := O9.out.set3 G9.out (.slice e0 y'.es.length f0) (.slice e1 y'.fl.length f1) (.slice e2 y'.la.length f2)
        have K10 := below_set3 K9.out HGW.out (.slice e0 y'.es.length f0) (.slice e1 y'.fl.length f1) (.slice e2 y'.la.length f2)
        have hneR := R9.out.neType G9.out (show 46 ≠ 3 by decide)
        have R10 := ((R9.out.setNe (p := ⟨G, 0, none⟩) (fun g hg q => hneR (hg.trans (congrArg some q))) (.slice e0 y'.es.length f0)).setNe (p := ⟨G, 1, none⟩) (fun g hg q => hneR (hg.trans (congrArg some q))) (.slice e1 y'.fl.length f1)).setNe (p := ⟨G, 2, none⟩) (fun g hg q => hneR (hg.trans (congrArg some q))) (.slice e2 y'.la.length f2)
        obtain ⟨w10, hw10⟩ : ∃ V, V = ((w9.setCell ⟨G, 0, none⟩ (.slice e0 y'.es.length f0)).setCell ⟨G, 1, none⟩ (.slice e1 y'.fl.length f1)).setCell ⟨G, 2, none⟩ (.slice e2 y'.la.length f2) := ⟨_, rfl⟩
        rw [← hw10] at G10 O10 K10 R10 ⊢
        replace G10 := Lib.hid G10
        replace O10 := Lib.hid O10
        replace K10 := Lib.hid K10
        have R11 := Lib.hid (R10.alloc (.cells #[.int .i64 b] 3))
        have hRA := rowsAt_int w10 b 3
        have RA := Lib.hid hRA
        clear hw10 R10 hRA hneR cG fG lG cP lP hne hne' hGl G9 A9 K9 R9 O9 PB
        go_wp2_with (at_builtin; refine wpList_append_row rfl _ _ rfl (k + 1) eltInt rfl rfl R11.out RA.out HCL.out rfl rfl (by simp only [maxLen]; omega) (by omega) (by have := K10.out.size; simp <;> omega) ?_)
        intro a5 c5 w12 q5
        have k11 : Below w10.heap.size w10 (w10.alloc (.cells #[.int .i64 b] 3)) := (Below.refl _ _).alloc (Nat.le_refl _) _
        have O12 := Lib.hid ((O10.out.below k11).app q5 R11.out)
        have hGn := R11.out.neType (carryN k11 G10.out) (show 46 ≠ 3 by decide)
        have G12 := Lib.hid ((q5.grown.block G (lt_of_block (carryN k11 G10.out)) (fun e => hGn e.symm)).trans (carryN k11 G10.out))
        have K12 := Lib.hid ((below_next K10.out k11).grown q5.grown (by have := (below_next K10.out k11).size; omega) (fun g hg => (R11.out.blk hg).1))
        have R12 := Lib.hid q5.row
        clear q5 k11 hGn R11 RA O10 G10 K10
        go_wp2_with fail
        go_roundw
        case rel =>
          refine ⟨k + 1, y', e0, e1, e2, a5, f0, f1, f2, c5, by omega, ?_, ?_, HX.out.symm, G12.out, ?_, O12.out, K12.out⟩
          · go_num
          · rfl
          · rw [HCN.out]; exact R12.out
        case measure => simp [intOf]; omega
      · have hkk : k = n := by omega
        subst hkk
        clear hgk hbel hG
        go_wp2_with fail
        go_ret
        have e : codesA z = codesG y (z.wt.take k) := by rw [HE.out, List.take_of_length_le (by have := HN.out; omega)]
        have hl : (codesG y (z.wt.take k)).length = k := by rw [codesG_length, List.length_take]; have := HN.out; omega
        rw [e]
        unfold IntsOwn
        rw [hl]
        exact ⟨ao, co, rfl, hgR.out.low (by have := SW.out; omega), below_next KW.out KV.out⟩
end Go.Proofs.Ytofedboeggdkaaa

/-! The draw of what is done ahead (l20Ahead): two rows of asks and a number; condition: fewer than 2^40 reads. -/
namespace Go.Proofs.Ytofedboeggdkaaa
open Go.RowKit Go.Joins

theorem grown_setA {a w : World} {g G : Nat} (h : a.grownBy w (some g)) (hG : a.heap.size ≤ G) (x y u : Value) : a.grownBy (((w.setCell ⟨G, 0, none⟩ x).setCell ⟨G, 1, none⟩ y).setCell ⟨G, 2, none⟩ u) (some g) :=
  grown_setCell (grown_setCell (grown_setCell h (.inr hG) x) (.inr hG) y) (.inr hG) u
/-- What is done ahead, drawn: two rows of its own. -/
def AheadGot (w : World) (g Q : Nat) (e : Ending) (w' : World) : Prop :=
  ∃ (z : Ah) (a0 a1 : Option Addr) (c0 c1 : Nat), e = .returned (.agg #[.slice a0 z.dn.length c0, .slice a1 z.wt.length c1, .int .i64 z.bk]) ∧ z.dn.length ≤ 8 ∧ z.wt.length ≤ 5 ∧
    Row w' w.heap.size 34 a0 c0 5 Rq.cs z.dn ∧ Row w' w.heap.size 34 a1 c1 5 Rq.cs z.wt ∧ Rdr w' g Q ∧ w.grownBy w' (some g)
/-- The world in the midst of the draw: the block of what is done ahead (X), its rows, the reader. -/
structure AhMid (w V : World) (g Q X B : Nat) (a0 a1 : Option Addr) (c0 c1 : Nat) (dn wt : List Rq) (bk : Int) : Prop where
  blk : V.heap[X]? = some (.cells #[.slice a0 dn.length c0, .slice a1 wt.length c1, .int .i64 bk] 30 (0, 0))
  dn : Row V B 34 a0 c0 5 Rq.cs dn
  wt : Row V (X + 1) 34 a1 c1 5 Rq.cs wt
  low : ∀ h, rowBlk a0 c0 = some h → h < X
  rdr : Rdr V g Q
  grown : w.grownBy V (some g)
theorem AhMid.read {w V V' : World} {g Q Q' X B : Nat} {a0 a1 : Option Addr} {c0 c1 : Nat} {dn wt : List Rq} {bk : Int} (h : AhMid w V g Q X B a0 a1 c0 c1 dn wt bk) (k : V.grownBy V' (some g)) (r : Rdr V' g Q') (hX : g < X) (hB : g < B) : AhMid w V' g Q' X B a0 a1 c0 c1 dn wt bk :=
  ⟨carry k (by omega) h.blk, h.dn.kept k (fun g' hg' => by have := (h.dn.blk hg').1; intro e; injection e; omega), h.wt.kept k (fun g' hg' => by have := (h.wt.blk hg').1; intro e; injection e; omega), h.low, r, grown_trans h.grown k⟩
theorem AhMid.below {w V V' : World} {g Q X B : Nat} {a0 a1 : Option Addr} {c0 c1 : Nat} {dn wt : List Rq} {bk : Int} (h : AhMid w V g Q X B a0 a1 c0 c1 dn wt bk) (k : Below V.heap.size V V') : AhMid w V' g Q X B a0 a1 c0 c1 dn wt bk :=
  ⟨carryN k h.blk, h.dn.below k, h.wt.below k, h.low, h.rdr.below (k.mono h.rdr.lt), grown_trans h.grown (grown_of_below k _)⟩
/-- An ask appended to what waits: the store behind it. -/
theorem AhMid.app {w V V' : World} {g Q X B : Nat} {a0 a1 a' : Option Addr} {c0 c1 c' n : Nat} {dn wt : List Rq} {r : Rq} {bk : Int} (h : AhMid w V g Q X B a0 a1 c0 c1 dn wt bk) (q : Appended V V' (X + 1) 34 a1 a' c1 c' 5 Rq.cs (wt ++ [r])) (hn : n = wt.length + 1) (hX : g < X) (hw : w.heap.size ≤ X) :
    AhMid w (V'.setCell ⟨X, 1, none⟩ (.slice a' n c')) g Q X B a0 a' c0 c' dn (wt ++ [r]) bk := by
  have hlX := lt_of_block h.blk
  have hb : ∀ b, b < V.heap.size → b < X + 1 → V'.heap[b]? = V.heap[b]? := fun b h1 h2 => q.grown.block b h1 (fun e => by have := (h.wt.blk e.symm).1; omega)
  have hX' : V'.heap[X]? = _ := (hb X hlX (by omega)).trans h.blk
  have hdn : Row V' B 34 a0 c0 5 Rq.cs dn := h.dn.kept q.grown (fun g' hg' e => by have := h.low g' hg'; have := (h.wt.blk e).1; omega)
  have hr : Rdr V' g Q := h.rdr.below ⟨q.grown.os, q.grown.tape, q.grown.output, q.grown.size, fun b hb' => hb b (by have := h.rdr.lt; omega) (by omega)⟩
  refine ⟨?_, hdn.setNe (fun g' hg' => by have := h.low g' hg'; simp only; omega) _, q.row.setOther (by simp) _, h.low, hr.below ?_, ?_⟩
  · rw [block_setCell (i := 1) hX', hn, List.length_append]; rfl
  · exact (Below.refl _ _).setCell (by show g + 1 ≤ X; omega) _
  · exact grown_setCell ⟨q.grown.os.trans h.grown.os, q.grown.tape.trans h.grown.tape, q.grown.output.trans h.grown.output, Nat.le_trans h.grown.size q.grown.size, fun i hi hne => (hb i (Nat.lt_of_lt_of_le hi h.grown.size) (by omega)).trans (h.grown.block i hi hne)⟩ (.inr hw) _
theorem AhMid.setBk {w V : World} {g Q X B : Nat} {a0 a1 : Option Addr} {c0 c1 : Nat} {dn wt : List Rq} {bk : Int} (h : AhMid w V g Q X B a0 a1 c0 c1 dn wt bk) (v : Int) (hX : g < X) (hw : w.heap.size ≤ X) :
    AhMid w (V.setCell ⟨X, 2, none⟩ (.int .i64 v)) g Q X B a0 a1 c0 c1 dn wt v :=
  ⟨by rw [block_setCell (i := 2) h.blk]; rfl, h.dn.setNe (fun g' hg' => by have := h.low g' hg'; simp only; omega) _, h.wt.setOther (by simp) _, h.low, h.rdr.below ((Below.refl _ _).setCell (by show g + 1 ≤ X; omega) _), grown_setCell h.grown (.inr hw) _⟩
/-- The end: what was drawn is laid into the result's block. -/
theorem AhMid.done {w W V : World} {g Q X : Nat} {a0 a1 : Option Addr} {c0 c1 : Nat} {dn wt : List Rq} {bk : Int} (h : AhMid W V g Q X (w.heap.size + 1) a0 a1 c0 c1 dn wt bk) (kW : Below w.heap.size w W) (hg : g < w.heap.size) (hX : w.heap.size < X) (x y u : Value) (h8 : dn.length ≤ 8) (h5 : wt.length ≤ 5) :
    AheadGot w g Q (.returned (.agg #[.slice a0 dn.length c0, .slice a1 wt.length c1, .int .i64 bk])) (((V.setCell ⟨w.heap.size, 0, none⟩ x).setCell ⟨w.heap.size, 1, none⟩ y).setCell ⟨w.heap.size, 2, none⟩ u) := by
  refine ⟨⟨dn, wt, bk⟩, a0, a1, c0, c1, rfl, h8, h5, ?_, ?_, ?_, ?_⟩
  · exact (((h.dn.setOther (by simp) _).setOther (by simp) _).setOther (by simp) _).low (by omega)
  · exact (((h.wt.setOther (by simp; omega) _).setOther (by simp; omega) _).setOther (by simp; omega) _).low (by omega)
  · exact h.rdr.below (((((Below.refl _ _).setCell (by show g + 1 ≤ w.heap.size; omega) _).setCell (by show g + 1 ≤ w.heap.size; omega) _).setCell (by show g + 1 ≤ w.heap.size; omega) _))
  · exact grown_setA (grown_trans (grown_of_below kW _) h.grown) (Nat.le_refl _) x y u

set_option maxRecDepth 100000 in
set_option maxHeartbeats 8000000 in
theorem l20Ahead_c (w : World) (g P : Nat) (hr : Rdr w g P) (hP : P ≤ 1099511590000) :
    Calls Try.prog 78 #[.pointer (some ⟨g, 0, none⟩)] w (AheadGot w g (P + 100)) := by
  have hlt := hr.lt
  go_enter Try.func78, Try.ntmps78
  go_wp2_with fail
  obtain ⟨W, hW, sW, rW, kW⟩ := blocks1 w (.cells #[.slice none 0 0, .slice none 0 0, .int .i64 0] 30)
  rw [← hW]
  clear hW
  refine (l20Reqs_c W g P 8 (hr.below (kW.mono (by omega))) (by omega) (by omega)).mono ?_
  rintro e w1 ⟨rs, a0, c0, rfl, h8, -, hrow, r1, k1⟩
  have hs1 := k1.size
  have HROW := Lib.hid hrow
  have K1 := Lib.hid k1
  clear hrow k1
  go_wp2_with fail
  obtain ⟨w2, hw2, sw2, nB, k2⟩ := blocks1 w1 (.cells #[.int .i64 0, .int .i64 3, .int .i64 99] 3)
  rw [← hw2]
  clear hw2
  refine (one_c w2 g (P + 1 + 7 * 8) w1.heap.size 3 _ [0, 3, 99] _ (r1.below (k2.mono (by omega))) (by omega) (by omega) nB rfl rfl (by decide) (by decide)).mono ?_
  rintro e w3 ⟨bk, -, rfl, r3, k3⟩
  have hs3 := k3.size
  have K3 := Lib.hid (grown_trans K1.out (grown_trans (grown_of_below k2 (some g)) k3))
  have R3 := Lib.hid ((HROW.out.below k2).kept k3 (fun g' hg' => by have := (HROW.out.blk hg').1; intro e; injection e; omega))
  have LW := Lib.hid (fun h hh => Nat.lt_of_lt_of_le (HROW.out.blk (g := h) hh).2 (show w1.heap.size ≤ w3.heap.size by omega))
  clear k2 k3 r1 K1 HROW nB
  go_wp2_with fail
  obtain ⟨w4, hw4, sw4, xB, k4⟩ := blocks1 w3 (.cells #[.slice a0 rs.length c0, .slice none 0 0, .int .i64 bk] 30)
  rw [← hw4]
  clear hw4
  obtain ⟨X, hX⟩ : ∃ X, X = w3.heap.size := ⟨_, rfl⟩
  rw [← hX] at xB LW ⊢
  have hgX : g < X := by omega
  have hwX : w.heap.size < X := by omega
  have HM4 := Lib.hid (AhMid.mk (w := W) (B := w.heap.size + 1) (Q := P + 1 + 7 * 8 + 1) (wt := []) (c1 := 0) xB (by rw [← sW]; exact R3.out.below k4) (Row.nil _ _ _ _ _ _) LW.out (r3.below (k4.mono (by omega))) (grown_trans K3.out (grown_of_below k4 _)))
  clear k4 r3 K3 R3 LW xB
  refine (pick_c w4 g _ 5 HM4.out.rdr (by omega) (by omega)).mono ?_
  rintro e w5 ⟨v, rfl, hv0, hv1, -, r5, k5⟩
  replace hv1 := hv1 (by omega)
  obtain ⟨m0, rfl⟩ := Int.eq_ofNat_of_zero_le hv0
  have hm4 : m0 ≤ 4 := by omega
  have HM5 := Lib.hid (HM4.out.read k5 r5 hgX (by omega))
  have HKW := Lib.hid kW
  have RW := Lib.hid rW
  have HLT := Lib.hid hlt
  have HX := Lib.hid (And.intro hgX hwX)
  have HSW := Lib.hid sW
  clear k5 r5 HM4 hv0 hv1 sw2 sw4 hs1 hs3 hX kW rW hr hlt hgX hwX sW
  go_wp2_with fail
  go_loopw [4] (fun i wr => ∃ (m : Nat) (ws : List Rq) (a1 : Option Addr) (c1 : Nat), i = .int .i64 m ∧ ws.length + m ≤ 4 ∧ AhMid W wr g (P + 1 + 7 * 8 + 1 + 1 + 5 * ws.length) X (w.heap.size + 1) a0 a1 c0 c1 rs ws bk) (fun i _ => (intOf i).toNat)
  case atStart => exact ⟨m0, [], none, 0, rfl, by simpa using hm4, HM5.out⟩
  case round =>
    obtain ⟨m, ws, a1, c1, rfl, hwm, hM⟩ := hrel
    have HM := Lib.hid hM
    have hlx := lt_of_block hM.blk
    clear hM HM5 hm4
    by_cases hm : (m : Int) ≤ 0
    · go_wp2_with fail
      refine (pick_c wr g _ 14 HM.out.rdr (by omega) (by omega)).mono ?_
      rintro e w6 ⟨p, rfl, -, -, -, r6, k6⟩
      have HM6 := Lib.hid (HM.out.read k6 r6 HX.out.1 (by have := HLT.out; omega))
      clear HM k6 r6 hlx
      by_cases hp0 : p = 0
      · subst hp0
        go_wp2_with fail
        obtain ⟨w7, hw7, sw7, nB, k7⟩ := blocks1 w6 (.cells #[.int .i64 (-1), .int .i64 100] 3)
        rw [← hw7]
        clear hw7 sw7
        have hl6 := lt_of_block HM6.out.blk
        refine (one_c w7 g _ w6.heap.size 2 _ [-1, 100] _ (HM6.out.below k7).rdr (by omega) (by have := HX.out.1; omega) nB rfl rfl (by decide) (by decide)).mono ?_
        rintro e w8 ⟨b2, -, rfl, r8, k8⟩
        have HM8 := Lib.hid ((HM6.out.below k7).read k8 r8 HX.out.1 (by have := HLT.out; omega))
        clear k7 k8 r8 nB HM6 hl6
        have cX := cell_of_block HM8.out.blk
        have fX := unfrozen_of_block HM8.out.blk
        have lX := lt_of_block HM8.out.blk
        have bR := carry HM8.out.grown (by have := HLT.out; omega) RW.out
        have cR := cell_of_block bR
        have fR := unfrozen_of_block bR
        have lR := lt_of_block bR
        have HM9 := Lib.hid (HM8.out.setBk b2 HX.out.1 (by rw [HSW.out]; exact HX.out.2))
        clear bR
        have hne : ¬ (w.heap.size = X) := by have := HX.out.2; omega
        have hne' : ¬ (X = w.heap.size) := by have := HX.out.2; omega
        go_wp2_with fail
        refine bodyPost_ret (v := .agg #[.slice a0 rs.length c0, .slice a1 ws.length c1, .int .i64 b2]) (by simp [results, Try.results78, go_sem, cR]) rfl ?_
        obtain ⟨z, b0, b1, d0, d1, h⟩ := HM9.out.done HKW.out HLT.out HX.out.2 (.slice a0 rs.length c0) (.slice a1 ws.length c1) (.int .i64 b2) h8 (by omega)
        exact ⟨z, b0, b1, d0, d1, h.1, h.2.1, h.2.2.1, h.2.2.2.1, h.2.2.2.2.1, h.2.2.2.2.2.1.mono (by omega), h.2.2.2.2.2.2⟩
      · by_cases hp1 : p = 1
        · subst hp1
          go_wp2_with fail
          refine wp_region_held_drew (S := fun _ => True) (by kernel_rfl) trivial (fun hHeld => ?_)
          obtain ⟨wd, hwd, kwd⟩ : ∃ wd, wd = w6.drew ∧ Below w6.heap.size w6 wd := ⟨_, rfl, Below.drew (Below.refl _ _)⟩
          rw [← hwd]
          clear hwd
          have D0 := Lib.hid (HM6.out.below kwd)
          clear kwd hHeld
          have hHeld := True.intro
          refine wpAnyH_take (i := 0) (oi := _) (v := ?_) (by (simp only [List.getElem?_toArray]; rfl)) (by kernel_rfl) (by kernel_rfl) (by kernel_rfl) (by exact fun _ _ _ h => h) (Or.inl ⟨by rfl, ?_⟩) (by assumption) ?_
          rotate_left
          · intro wS hSw
            go_simp
            all_goals first | with_reducible rfl | rw [if_neg (by omega)]
          simp only [Act.put, List.setIfInBounds_toArray, List.set]
          refine wpAnyH_take (i := 2) (oi := _) (v := ?_) (by (simp only [List.getElem?_toArray]; rfl)) (by kernel_rfl) (by kernel_rfl) (by kernel_rfl) (by exact fun _ _ _ h => h) (Or.inl ⟨by rfl, ?_⟩) (by assumption) ?_
          rotate_left
          · intro wS hSw
            go_simp
            all_goals first | with_reducible rfl | rw [if_neg (by omega)]
          simp only [Act.put, List.setIfInBounds_toArray, List.set]
          clear hHeld
          refine wpAnyH_ready (rs := [1, 3]) (by kernel_rfl) (by simp) ?_
          refine AllReadyH.cons (o := _) (by (simp only [List.getElem?_toArray]; rfl)) (fun K hK => ?_) ?_
          · skip
            have cX := cell_of_block D0.out.blk
            have lX := lt_of_block D0.out.blk
            go_simp
            clear cX lX
            refine hK.out _ _ trivial (fun hHeld => ?_)
            clear hK K hHeld
            try simp only [Act.put, List.setIfInBounds_toArray, List.set]
            refine wpAnyH_ready (rs := [3]) (by kernel_rfl) (by simp) ?_
            refine AllReadyH.cons (o := _) (by (simp only [List.getElem?_toArray]; rfl)) (fun K hK => ?_) AllReadyH.nil
            go_simp
            refine (l20AnyReq_c _ g _ D0.out.rdr (by omega)).mono ?_
            rintro e w6c ⟨r, rfl, rc, kc⟩
            have D1 := Lib.hid (D0.out.read kc rc HX.out.1 (by have := HLT.out; omega))
            clear rc kc
            refine hK.out _ _ trivial (fun hHeld => ?_)
            clear hK K hHeld
            try simp only [Act.put, List.setIfInBounds_toArray, List.set]
            refine wpAnyH_ready (rs := [4]) (by kernel_rfl) (by simp) ?_
            refine AllReadyH.cons (o := _) (by (simp only [List.getElem?_toArray]; rfl)) (fun K hK => ?_) AllReadyH.nil
            go_simp
            obtain ⟨V, hV, sV, qB, kV⟩ := blocks1 w6c (.cells #[.int .i64 r.c, .int .i64 r.n, .int .i64 r.o, .int .i64 r.x, .int .i64 r.y] 34)
            have hrv : RowsAt V (some ⟨w6c.heap.size, 0, none⟩) 5 Rq.cs [r] := by rw [hV]; exact rowsAt_req w6c r _
            rw [← hV]
            have HRV := Lib.hid hrv
            have D2 := Lib.hid (D1.out.below kV)
            clear hV sV qB kV hrv
            refine hK.out _ _ trivial (fun hHeld => ?_)
            clear hK K hHeld
            try simp only [Act.put, List.setIfInBounds_toArray, List.set]
            refine wpAnyH_ready (rs := [5]) (by kernel_rfl) (by simp) ?_
            refine AllReadyH.cons (o := _) (by (simp only [List.getElem?_toArray]; rfl)) (fun K hK => ?_) AllReadyH.nil
            refine step_append_elt (by rfl) (.tmp 35) (.tmp 38) (by rfl) (ws.length + 1) eltReq (by rfl) (by rfl) D2.out.wt HRV.out rfl rfl rfl (by simp only [maxLen]; omega) (by omega) (by exact lt_of_block D2.out.blk) ?_
            intro a5 c5 w9 q9
            have MA := Lib.hid (D2.out.app q9 rfl HX.out.1 (by rw [HSW.out]; exact HX.out.2))
            have BX := Lib.hid ((q9.grown.block X (lt_of_block D2.out.blk) (fun e => by have := (D2.out.wt.blk e.symm).1; omega)).trans D2.out.blk)
            clear q9 HRV D2
            refine hK.out _ _ trivial (fun hHeld => ?_)
            clear hK K hHeld
            try simp only [Act.put, List.setIfInBounds_toArray, List.set]
            have hHeld := True.intro
            refine wpAnyH_take (i := 6) (oi := _) (v := ?_) (by (simp only [List.getElem?_toArray]; rfl)) (by kernel_rfl) (by kernel_rfl) (by kernel_rfl) (by exact fun _ _ _ h => h) (Or.inl ⟨by rfl, ?_⟩) (by assumption) ?_
            rotate_left
            · intro wS hSw
              go_simp
              all_goals first | with_reducible rfl | rw [if_neg (by omega)]
            simp only [Act.put, List.setIfInBounds_toArray, List.set]
            clear hHeld
            have cX := cell_of_block BX.out
            have fX := unfrozen_of_block BX.out
            have lX := lt_of_block BX.out
            refine wpAnyH_ready (rs := [7]) (by kernel_rfl) (by simp) ?_
            refine AllReadyH.cons (o := _) (by (simp only [List.getElem?_toArray]; rfl)) (fun K hK => ?_) AllReadyH.nil
            go_simp
            refine hK.out _ _ trivial (fun hHeld => ?_)
            clear hK K
            try simp only [Act.put, List.setIfInBounds_toArray, List.set]
            refine wpAnyH_done (by kernel_rfl) ?_ _
            have bR := carry MA.out.grown (by have := HLT.out; omega) RW.out
            have cR := cell_of_block bR
            have fR := unfrozen_of_block bR
            have lR := lt_of_block bR
            clear bR cX fX lX
            obtain ⟨U, hU⟩ : ∃ U, U = w9.setCell ⟨X, 1, none⟩ (.slice a5 (ws.length + 1) c5) := ⟨_, rfl⟩
            rw [← hU] at MA cR fR lR ⊢
            have cX := cell_of_block MA.out.blk
            have lX := lt_of_block MA.out.blk
            have HLA := Lib.hid (show (ws ++ [r]).length = ws.length + 1 by simp)
            rw [HLA.out] at cX
            clear hU
            go_wp2_with fail
            refine bodyPost_ret (v := .agg #[.slice a0 rs.length c0, .slice a5 (ws.length + 1) c5, .int .i64 bk]) (by simp [results, Try.results78, go_sem, cR]) rfl ?_
            obtain ⟨z, b0, b1, d0, d1, h⟩ := MA.out.done HKW.out HLT.out HX.out.2 (.slice a0 rs.length c0) (.slice a5 (ws.length + 1) c5) (.int .i64 bk) h8 (by rw [HLA.out]; omega)
            rw [HLA.out] at h
            exact ⟨z, b0, b1, d0, d1, h.1, h.2.1, h.2.2.1, h.2.2.2.1, h.2.2.2.2.1, h.2.2.2.2.2.1.mono (by omega), h.2.2.2.2.2.2⟩
          refine AllReadyH.cons (o := _) (by (simp only [List.getElem?_toArray]; rfl)) (fun K hK => ?_) ?_
          · skip
            go_simp
            refine (l20AnyReq_c _ g _ D0.out.rdr (by omega)).mono ?_
            rintro e w6c ⟨r, rfl, rc, kc⟩
            have D1 := Lib.hid (D0.out.read kc rc HX.out.1 (by have := HLT.out; omega))
            clear rc kc
            refine hK.out _ _ trivial (fun hHeld => ?_)
            clear hK K hHeld
            try simp only [Act.put, List.setIfInBounds_toArray, List.set]
            refine wpAnyH_ready (rs := [1, 4]) (by kernel_rfl) (by simp) ?_
            refine AllReadyH.cons (o := _) (by (simp only [List.getElem?_toArray]; rfl)) (fun K hK => ?_) ?_
            · skip
              have cX := cell_of_block D1.out.blk
              have lX := lt_of_block D1.out.blk
              go_simp
              clear cX lX
              refine hK.out _ _ trivial (fun hHeld => ?_)
              clear hK K hHeld
              try simp only [Act.put, List.setIfInBounds_toArray, List.set]
              refine wpAnyH_ready (rs := [4]) (by kernel_rfl) (by simp) ?_
              refine AllReadyH.cons (o := _) (by (simp only [List.getElem?_toArray]; rfl)) (fun K hK => ?_) AllReadyH.nil
              go_simp
              obtain ⟨V, hV, sV, qB, kV⟩ := blocks1 w6c (.cells #[.int .i64 r.c, .int .i64 r.n, .int .i64 r.o, .int .i64 r.x, .int .i64 r.y] 34)
              have hrv : RowsAt V (some ⟨w6c.heap.size, 0, none⟩) 5 Rq.cs [r] := by rw [hV]; exact rowsAt_req w6c r _
              rw [← hV]
              have HRV := Lib.hid hrv
              have D2 := Lib.hid (D1.out.below kV)
              clear hV sV qB kV hrv
              refine hK.out _ _ trivial (fun hHeld => ?_)
              clear hK K hHeld
              try simp only [Act.put, List.setIfInBounds_toArray, List.set]
              refine wpAnyH_ready (rs := [5]) (by kernel_rfl) (by simp) ?_
              refine AllReadyH.cons (o := _) (by (simp only [List.getElem?_toArray]; rfl)) (fun K hK => ?_) AllReadyH.nil
              refine step_append_elt (by rfl) (.tmp 35) (.tmp 38) (by rfl) (ws.length + 1) eltReq (by rfl) (by rfl) D2.out.wt HRV.out rfl rfl rfl (by simp only [maxLen]; omega) (by omega) (by exact lt_of_block D2.out.blk) ?_
              intro a5 c5 w9 q9
              have MA := Lib.hid (D2.out.app q9 rfl HX.out.1 (by rw [HSW.out]; exact HX.out.2))
              have BX := Lib.hid ((q9.grown.block X (lt_of_block D2.out.blk) (fun e => by have := (D2.out.wt.blk e.symm).1; omega)).trans D2.out.blk)
              clear q9 HRV D2
              refine hK.out _ _ trivial (fun hHeld => ?_)
              clear hK K hHeld
              try simp only [Act.put, List.setIfInBounds_toArray, List.set]
              have hHeld := True.intro
              refine wpAnyH_take (i := 6) (oi := _) (v := ?_) (by (simp only [List.getElem?_toArray]; rfl)) (by kernel_rfl) (by kernel_rfl) (by kernel_rfl) (by exact fun _ _ _ h => h) (Or.inl ⟨by rfl, ?_⟩) (by assumption) ?_
              rotate_left
              · intro wS hSw
                go_simp
                all_goals first | with_reducible rfl | rw [if_neg (by omega)]
              simp only [Act.put, List.setIfInBounds_toArray, List.set]
              clear hHeld
              have cX := cell_of_block BX.out
              have fX := unfrozen_of_block BX.out
              have lX := lt_of_block BX.out
              refine wpAnyH_ready (rs := [7]) (by kernel_rfl) (by simp) ?_
              refine AllReadyH.cons (o := _) (by (simp only [List.getElem?_toArray]; rfl)) (fun K hK => ?_) AllReadyH.nil
              go_simp
              refine hK.out _ _ trivial (fun hHeld => ?_)
              clear hK K
              try simp only [Act.put, List.setIfInBounds_toArray, List.set]
              refine wpAnyH_done (by kernel_rfl) ?_ _
              have bR := carry MA.out.grown (by have := HLT.out; omega) RW.out
              have cR := cell_of_block bR
              have fR := unfrozen_of_block bR
              have lR := lt_of_block bR
              clear bR cX fX lX
              obtain ⟨U, hU⟩ : ∃ U, U = w9.setCell ⟨X, 1, none⟩ (.slice a5 (ws.length + 1) c5) := ⟨_, rfl⟩
              rw [← hU] at MA cR fR lR ⊢
              have cX := cell_of_block MA.out.blk
              have lX := lt_of_block MA.out.blk
              have HLA := Lib.hid (show (ws ++ [r]).length = ws.length + 1 by simp)
              rw [HLA.out] at cX
              clear hU
              go_wp2_with fail
              refine bodyPost_ret (v := .agg #[.slice a0 rs.length c0, .slice a5 (ws.length + 1) c5, .int .i64 bk]) (by simp [results, Try.results78, go_sem, cR]) rfl ?_
              obtain ⟨z, b0, b1, d0, d1, h⟩ := MA.out.done HKW.out HLT.out HX.out.2 (.slice a0 rs.length c0) (.slice a5 (ws.length + 1) c5) (.int .i64 bk) h8 (by rw [HLA.out]; omega)
              rw [HLA.out] at h
              exact ⟨z, b0, b1, d0, d1, h.1, h.2.1, h.2.2.1, h.2.2.2.1, h.2.2.2.2.1, h.2.2.2.2.2.1.mono (by omega), h.2.2.2.2.2.2⟩
            refine AllReadyH.cons (o := _) (by (simp only [List.getElem?_toArray]; rfl)) (fun K hK => ?_) ?_
            · skip
              go_simp
              obtain ⟨V, hV, sV, qB, kV⟩ := blocks1 w6c (.cells #[.int .i64 r.c, .int .i64 r.n, .int .i64 r.o, .int .i64 r.x, .int .i64 r.y] 34)
              have hrv : RowsAt V (some ⟨w6c.heap.size, 0, none⟩) 5 Rq.cs [r] := by rw [hV]; exact rowsAt_req w6c r _
              rw [← hV]
              have HRV := Lib.hid hrv
              have D2 := Lib.hid (D1.out.below kV)
              clear hV sV qB kV hrv
              refine hK.out _ _ trivial (fun hHeld => ?_)
              clear hK K hHeld
              try simp only [Act.put, List.setIfInBounds_toArray, List.set]
              refine wpAnyH_ready (rs := [1]) (by kernel_rfl) (by simp) ?_
              refine AllReadyH.cons (o := _) (by (simp only [List.getElem?_toArray]; rfl)) (fun K hK => ?_) AllReadyH.nil
              have cX := cell_of_block D2.out.blk
              have lX := lt_of_block D2.out.blk
              go_simp
              clear cX lX
              refine hK.out _ _ trivial (fun hHeld => ?_)
              clear hK K hHeld
              try simp only [Act.put, List.setIfInBounds_toArray, List.set]
              refine wpAnyH_ready (rs := [5]) (by kernel_rfl) (by simp) ?_
              refine AllReadyH.cons (o := _) (by (simp only [List.getElem?_toArray]; rfl)) (fun K hK => ?_) AllReadyH.nil
              refine step_append_elt (by rfl) (.tmp 35) (.tmp 38) (by rfl) (ws.length + 1) eltReq (by rfl) (by rfl) D2.out.wt HRV.out rfl rfl rfl (by simp only [maxLen]; omega) (by omega) (by exact lt_of_block D2.out.blk) ?_
              intro a5 c5 w9 q9
              have MA := Lib.hid (D2.out.app q9 rfl HX.out.1 (by rw [HSW.out]; exact HX.out.2))
              have BX := Lib.hid ((q9.grown.block X (lt_of_block D2.out.blk) (fun e => by have := (D2.out.wt.blk e.symm).1; omega)).trans D2.out.blk)
              clear q9 HRV D2
              refine hK.out _ _ trivial (fun hHeld => ?_)
              clear hK K hHeld
              try simp only [Act.put, List.setIfInBounds_toArray, List.set]
              have hHeld := True.intro
              refine wpAnyH_take (i := 6) (oi := _) (v := ?_) (by (simp only [List.getElem?_toArray]; rfl)) (by kernel_rfl) (by kernel_rfl) (by kernel_rfl) (by exact fun _ _ _ h => h) (Or.inl ⟨by rfl, ?_⟩) (by assumption) ?_
              rotate_left
              · intro wS hSw
                go_simp
                all_goals first | with_reducible rfl | rw [if_neg (by omega)]
              simp only [Act.put, List.setIfInBounds_toArray, List.set]
              clear hHeld
              have cX := cell_of_block BX.out
              have fX := unfrozen_of_block BX.out
              have lX := lt_of_block BX.out
              refine wpAnyH_ready (rs := [7]) (by kernel_rfl) (by simp) ?_
              refine AllReadyH.cons (o := _) (by (simp only [List.getElem?_toArray]; rfl)) (fun K hK => ?_) AllReadyH.nil
              go_simp
              refine hK.out _ _ trivial (fun hHeld => ?_)
              clear hK K
              try simp only [Act.put, List.setIfInBounds_toArray, List.set]
              refine wpAnyH_done (by kernel_rfl) ?_ _
              have bR := carry MA.out.grown (by have := HLT.out; omega) RW.out
              have cR := cell_of_block bR
              have fR := unfrozen_of_block bR
              have lR := lt_of_block bR
              clear bR cX fX lX
              obtain ⟨U, hU⟩ : ∃ U, U = w9.setCell ⟨X, 1, none⟩ (.slice a5 (ws.length + 1) c5) := ⟨_, rfl⟩
              rw [← hU] at MA cR fR lR ⊢
              have cX := cell_of_block MA.out.blk
              have lX := lt_of_block MA.out.blk
              have HLA := Lib.hid (show (ws ++ [r]).length = ws.length + 1 by simp)
              rw [HLA.out] at cX
              clear hU
              go_wp2_with fail
              refine bodyPost_ret (v := .agg #[.slice a0 rs.length c0, .slice a5 (ws.length + 1) c5, .int .i64 bk]) (by simp [results, Try.results78, go_sem, cR]) rfl ?_
              obtain ⟨z, b0, b1, d0, d1, h⟩ := MA.out.done HKW.out HLT.out HX.out.2 (.slice a0 rs.length c0) (.slice a5 (ws.length + 1) c5) (.int .i64 bk) h8 (by rw [HLA.out]; omega)
              rw [HLA.out] at h
              exact ⟨z, b0, b1, d0, d1, h.1, h.2.1, h.2.2.1, h.2.2.2.1, h.2.2.2.2.1, h.2.2.2.2.2.1.mono (by omega), h.2.2.2.2.2.2⟩
            exact AllReadyH.nil
          exact AllReadyH.nil
        · have cX := cell_of_block HM6.out.blk
          have lX := lt_of_block HM6.out.blk
          have bR := carry HM6.out.grown (by have := HLT.out; omega) RW.out
          have cR := cell_of_block bR
          have fR := unfrozen_of_block bR
          have lR := lt_of_block bR
          clear bR
          have hne : ¬ (w.heap.size = X) := by have := HX.out.2; omega
          have hne' : ¬ (X = w.heap.size) := by have := HX.out.2; omega
          go_wp2_with fail
          refine bodyPost_ret (v := .agg #[.slice a0 rs.length c0, .slice a1 ws.length c1, .int .i64 bk]) (by simp [results, Try.results78, go_sem, cR]) rfl ?_
          obtain ⟨z, b0, b1, d0, d1, h⟩ := HM6.out.done HKW.out HLT.out HX.out.2 (.slice a0 rs.length c0) (.slice a1 ws.length c1) (.int .i64 bk) h8 (by omega)
          exact ⟨z, b0, b1, d0, d1, h.1, h.2.1, h.2.2.1, h.2.2.2.1, h.2.2.2.2.1, h.2.2.2.2.2.1.mono (by omega), h.2.2.2.2.2.2⟩
    · go_wp2_with fail
      refine wp_region_held_drew (S := fun _ => True) (by kernel_rfl) trivial (fun hHeld => ?_)
      obtain ⟨wd, hwd, kwd⟩ : ∃ wd, wd = wr.drew ∧ Below wr.heap.size wr wd := ⟨_, rfl, Below.drew (Below.refl _ _)⟩
      rw [← hwd]
      clear hwd
      have D0 := Lib.hid (HM.out.below kwd)
      clear kwd hHeld
      have hHeld := True.intro
      refine wpAnyH_take (i := 0) (oi := _) (v := ?_) (by (simp only [List.getElem?_toArray]; rfl)) (by kernel_rfl) (by kernel_rfl) (by kernel_rfl) (by exact fun _ _ _ h => h) (Or.inl ⟨by rfl, ?_⟩) (by assumption) ?_
      rotate_left
      · intro wS hSw
        go_simp
        all_goals first | with_reducible rfl | rw [if_neg (by omega)]
      simp only [Act.put, List.setIfInBounds_toArray, List.set]
      refine wpAnyH_take (i := 2) (oi := _) (v := ?_) (by (simp only [List.getElem?_toArray]; rfl)) (by kernel_rfl) (by kernel_rfl) (by kernel_rfl) (by exact fun _ _ _ h => h) (Or.inl ⟨by rfl, ?_⟩) (by assumption) ?_
      rotate_left
      · intro wS hSw
        go_simp
        all_goals first | with_reducible rfl | rw [if_neg (by omega)]
      simp only [Act.put, List.setIfInBounds_toArray, List.set]
      clear hHeld
      refine wpAnyH_ready (rs := [1, 3]) (by kernel_rfl) (by simp) ?_
      refine AllReadyH.cons (o := _) (by (simp only [List.getElem?_toArray]; rfl)) (fun K hK => ?_) ?_
      · skip
        have cX := cell_of_block D0.out.blk
        have lX := lt_of_block D0.out.blk
        go_simp
        clear cX lX
        refine hK.out _ _ trivial (fun hHeld => ?_)
        clear hK K hHeld
        try simp only [Act.put, List.setIfInBounds_toArray, List.set]
        refine wpAnyH_ready (rs := [3]) (by kernel_rfl) (by simp) ?_
        refine AllReadyH.cons (o := _) (by (simp only [List.getElem?_toArray]; rfl)) (fun K hK => ?_) AllReadyH.nil
        go_simp
        refine (l20Req_c _ g _ D0.out.rdr (by omega)).mono ?_
        rintro e w6c ⟨r, rfl, -, -, rc, kc⟩
        have D1 := Lib.hid (D0.out.read kc rc HX.out.1 (by have := HLT.out; omega))
        clear rc kc
        refine hK.out _ _ trivial (fun hHeld => ?_)
        clear hK K hHeld
        try simp only [Act.put, List.setIfInBounds_toArray, List.set]
        refine wpAnyH_ready (rs := [4]) (by kernel_rfl) (by simp) ?_
        refine AllReadyH.cons (o := _) (by (simp only [List.getElem?_toArray]; rfl)) (fun K hK => ?_) AllReadyH.nil
        go_simp
        obtain ⟨V, hV, sV, qB, kV⟩ := blocks1 w6c (.cells #[.int .i64 r.c, .int .i64 r.n, .int .i64 r.o, .int .i64 r.x, .int .i64 r.y] 34)
        have hrv : RowsAt V (some ⟨w6c.heap.size, 0, none⟩) 5 Rq.cs [r] := by rw [hV]; exact rowsAt_req w6c r _
        rw [← hV]
        have HRV := Lib.hid hrv
        have D2 := Lib.hid (D1.out.below kV)
        clear hV sV qB kV hrv
        refine hK.out _ _ trivial (fun hHeld => ?_)
        clear hK K hHeld
        try simp only [Act.put, List.setIfInBounds_toArray, List.set]
        refine wpAnyH_ready (rs := [5]) (by kernel_rfl) (by simp) ?_
        refine AllReadyH.cons (o := _) (by (simp only [List.getElem?_toArray]; rfl)) (fun K hK => ?_) AllReadyH.nil
        refine step_append_elt (by rfl) (.tmp 18) (.tmp 21) (by rfl) (ws.length + 1) eltReq (by rfl) (by rfl) D2.out.wt HRV.out rfl rfl rfl (by simp only [maxLen]; omega) (by omega) (by exact lt_of_block D2.out.blk) ?_
        intro a5 c5 w9 q9
        have MA := Lib.hid (D2.out.app q9 rfl HX.out.1 (by rw [HSW.out]; exact HX.out.2))
        have BX := Lib.hid ((q9.grown.block X (lt_of_block D2.out.blk) (fun e => by have := (D2.out.wt.blk e.symm).1; omega)).trans D2.out.blk)
        clear q9 HRV D2
        refine hK.out _ _ trivial (fun hHeld => ?_)
        clear hK K hHeld
        try simp only [Act.put, List.setIfInBounds_toArray, List.set]
        have hHeld := True.intro
        refine wpAnyH_take (i := 6) (oi := _) (v := ?_) (by (simp only [List.getElem?_toArray]; rfl)) (by kernel_rfl) (by kernel_rfl) (by kernel_rfl) (by exact fun _ _ _ h => h) (Or.inl ⟨by rfl, ?_⟩) (by assumption) ?_
        rotate_left
        · intro wS hSw
          go_simp
          all_goals first | with_reducible rfl | rw [if_neg (by omega)]
        simp only [Act.put, List.setIfInBounds_toArray, List.set]
        clear hHeld
        have cX := cell_of_block BX.out
        have fX := unfrozen_of_block BX.out
        have lX := lt_of_block BX.out
        refine wpAnyH_ready (rs := [7]) (by kernel_rfl) (by simp) ?_
        refine AllReadyH.cons (o := _) (by (simp only [List.getElem?_toArray]; rfl)) (fun K hK => ?_) AllReadyH.nil
        go_simp
        refine hK.out _ _ trivial (fun hHeld => ?_)
        clear hK K
        try simp only [Act.put, List.setIfInBounds_toArray, List.set]
        refine wpAnyH_done (by kernel_rfl) ?_ _
        have hwm' : IntKind.i64.wrap ((m : Int) - 1) = (m : Int) - 1 := IntWalk.i64_in _ ⟨by omega, by omega⟩
        clear cX fX lX
        go_wp2_with fail
        go_roundw
        case rel =>
          refine ⟨m - 1, ws ++ [r], a5, c5, ?_, by simp; omega, ?_⟩
          · have : ((m - 1 : Nat) : Int) = (m : Int) - 1 := by omega
            rw [this]
          · have h := MA.out
            rw [List.length_append]
            exact ⟨h.blk, h.dn, h.wt, h.low, h.rdr.mono (by simp; omega), h.grown⟩
        case measure => simp [intOf]; omega
      refine AllReadyH.cons (o := _) (by (simp only [List.getElem?_toArray]; rfl)) (fun K hK => ?_) ?_
      · skip
        go_simp
        refine (l20Req_c _ g _ D0.out.rdr (by omega)).mono ?_
        rintro e w6c ⟨r, rfl, -, -, rc, kc⟩
        have D1 := Lib.hid (D0.out.read kc rc HX.out.1 (by have := HLT.out; omega))
        clear rc kc
        refine hK.out _ _ trivial (fun hHeld => ?_)
        clear hK K hHeld
        try simp only [Act.put, List.setIfInBounds_toArray, List.set]
        refine wpAnyH_ready (rs := [1, 4]) (by kernel_rfl) (by simp) ?_
        refine AllReadyH.cons (o := _) (by (simp only [List.getElem?_toArray]; rfl)) (fun K hK => ?_) ?_
        · skip
          have cX := cell_of_block D1.out.blk
          have lX := lt_of_block D1.out.blk
          go_simp
          clear cX lX
          refine hK.out _ _ trivial (fun hHeld => ?_)
          clear hK K hHeld
          try simp only [Act.put, List.setIfInBounds_toArray, List.set]
          refine wpAnyH_ready (rs := [4]) (by kernel_rfl) (by simp) ?_
          refine AllReadyH.cons (o := _) (by (simp only [List.getElem?_toArray]; rfl)) (fun K hK => ?_) AllReadyH.nil
          go_simp
          obtain ⟨V, hV, sV, qB, kV⟩ := blocks1 w6c (.cells #[.int .i64 r.c, .int .i64 r.n, .int .i64 r.o, .int .i64 r.x, .int .i64 r.y] 34)
          have hrv : RowsAt V (some ⟨w6c.heap.size, 0, none⟩) 5 Rq.cs [r] := by rw [hV]; exact rowsAt_req w6c r _
          rw [← hV]
          have HRV := Lib.hid hrv
          have D2 := Lib.hid (D1.out.below kV)
          clear hV sV qB kV hrv
          refine hK.out _ _ trivial (fun hHeld => ?_)
          clear hK K hHeld
          try simp only [Act.put, List.setIfInBounds_toArray, List.set]
          refine wpAnyH_ready (rs := [5]) (by kernel_rfl) (by simp) ?_
          refine AllReadyH.cons (o := _) (by (simp only [List.getElem?_toArray]; rfl)) (fun K hK => ?_) AllReadyH.nil
          refine step_append_elt (by rfl) (.tmp 18) (.tmp 21) (by rfl) (ws.length + 1) eltReq (by rfl) (by rfl) D2.out.wt HRV.out rfl rfl rfl (by simp only [maxLen]; omega) (by omega) (by exact lt_of_block D2.out.blk) ?_
          intro a5 c5 w9 q9
          have MA := Lib.hid (D2.out.app q9 rfl HX.out.1 (by rw [HSW.out]; exact HX.out.2))
          have BX := Lib.hid ((q9.grown.block X (lt_of_block D2.out.blk) (fun e => by have := (D2.out.wt.blk e.symm).1; omega)).trans D2.out.blk)
          clear q9 HRV D2
          refine hK.out _ _ trivial (fun hHeld => ?_)
          clear hK K hHeld
          try simp only [Act.put, List.setIfInBounds_toArray, List.set]
          have hHeld := True.intro
          refine wpAnyH_take (i := 6) (oi := _) (v := ?_) (by (simp only [List.getElem?_toArray]; rfl)) (by kernel_rfl) (by kernel_rfl) (by kernel_rfl) (by exact fun _ _ _ h => h) (Or.inl ⟨by rfl, ?_⟩) (by assumption) ?_
          rotate_left
          · intro wS hSw
            go_simp
            all_goals first | with_reducible rfl | rw [if_neg (by omega)]
          simp only [Act.put, List.setIfInBounds_toArray, List.set]
          clear hHeld
          have cX := cell_of_block BX.out
          have fX := unfrozen_of_block BX.out
          have lX := lt_of_block BX.out
          refine wpAnyH_ready (rs := [7]) (by kernel_rfl) (by simp) ?_
          refine AllReadyH.cons (o := _) (by (simp only [List.getElem?_toArray]; rfl)) (fun K hK => ?_) AllReadyH.nil
          go_simp
          refine hK.out _ _ trivial (fun hHeld => ?_)
          clear hK K
          try simp only [Act.put, List.setIfInBounds_toArray, List.set]
          refine wpAnyH_done (by kernel_rfl) ?_ _
          have hwm' : IntKind.i64.wrap ((m : Int) - 1) = (m : Int) - 1 := IntWalk.i64_in _ ⟨by omega, by omega⟩
          clear cX fX lX
          go_wp2_with fail
          go_roundw
          case rel =>
            refine ⟨m - 1, ws ++ [r], a5, c5, ?_, by simp; omega, ?_⟩
            · have : ((m - 1 : Nat) : Int) = (m : Int) - 1 := by omega
              rw [this]
            · have h := MA.out
              rw [List.length_append]
              exact ⟨h.blk, h.dn, h.wt, h.low, h.rdr.mono (by simp; omega), h.grown⟩
          case measure => simp [intOf]; omega
        refine AllReadyH.cons (o := _) (by (simp only [List.getElem?_toArray]; rfl)) (fun K hK => ?_) ?_
        · skip
          go_simp
          obtain ⟨V, hV, sV, qB, kV⟩ := blocks1 w6c (.cells #[.int .i64 r.c, .int .i64 r.n, .int .i64 r.o, .int .i64 r.x, .int .i64 r.y] 34)
          have hrv : RowsAt V (some ⟨w6c.heap.size, 0, none⟩) 5 Rq.cs [r] := by rw [hV]; exact rowsAt_req w6c r _
          rw [← hV]
          have HRV := Lib.hid hrv
          have D2 := Lib.hid (D1.out.below kV)
          clear hV sV qB kV hrv
          refine hK.out _ _ trivial (fun hHeld => ?_)
          clear hK K hHeld
          try simp only [Act.put, List.setIfInBounds_toArray, List.set]
          refine wpAnyH_ready (rs := [1]) (by kernel_rfl) (by simp) ?_
          refine AllReadyH.cons (o := _) (by (simp only [List.getElem?_toArray]; rfl)) (fun K hK => ?_) AllReadyH.nil
          have cX := cell_of_block D2.out.blk
          have lX := lt_of_block D2.out.blk
          go_simp
          clear cX lX
          refine hK.out _ _ trivial (fun hHeld => ?_)
          clear hK K hHeld
          try simp only [Act.put, List.setIfInBounds_toArray, List.set]
          refine wpAnyH_ready (rs := [5]) (by kernel_rfl) (by simp) ?_
          refine AllReadyH.cons (o := _) (by (simp only [List.getElem?_toArray]; rfl)) (fun K hK => ?_) AllReadyH.nil
          refine step_append_elt (by rfl) (.tmp 18) (.tmp 21) (by rfl) (ws.length + 1) eltReq (by rfl) (by rfl) D2.out.wt HRV.out rfl rfl rfl (by simp only [maxLen]; omega) (by omega) (by exact lt_of_block D2.out.blk) ?_
          intro a5 c5 w9 q9
          have MA := Lib.hid (D2.out.app q9 rfl HX.out.1 (by rw [HSW.out]; exact HX.out.2))
          have BX := Lib.hid ((q9.grown.block X (lt_of_block D2.out.blk) (fun e => by have := (D2.out.wt.blk e.symm).1; omega)).trans D2.out.blk)
          clear q9 HRV D2
          refine hK.out _ _ trivial (fun hHeld => ?_)
          clear hK K hHeld
          try simp only [Act.put, List.setIfInBounds_toArray, List.set]
          have hHeld := True.intro
          refine wpAnyH_take (i := 6) (oi := _) (v := ?_) (by (simp only [List.getElem?_toArray]; rfl)) (by kernel_rfl) (by kernel_rfl) (by kernel_rfl) (by exact fun _ _ _ h => h) (Or.inl ⟨by rfl, ?_⟩) (by assumption) ?_
          rotate_left
          · intro wS hSw
            go_simp
            all_goals first | with_reducible rfl | rw [if_neg (by omega)]
          simp only [Act.put, List.setIfInBounds_toArray, List.set]
          clear hHeld
          have cX := cell_of_block BX.out
          have fX := unfrozen_of_block BX.out
          have lX := lt_of_block BX.out
          refine wpAnyH_ready (rs := [7]) (by kernel_rfl) (by simp) ?_
          refine AllReadyH.cons (o := _) (by (simp only [List.getElem?_toArray]; rfl)) (fun K hK => ?_) AllReadyH.nil
          go_simp
          refine hK.out _ _ trivial (fun hHeld => ?_)
          clear hK K
          try simp only [Act.put, List.setIfInBounds_toArray, List.set]
          refine wpAnyH_done (by kernel_rfl) ?_ _
          have hwm' : IntKind.i64.wrap ((m : Int) - 1) = (m : Int) - 1 := IntWalk.i64_in _ ⟨by omega, by omega⟩
          clear cX fX lX
          go_wp2_with fail
          go_roundw
          case rel =>
            refine ⟨m - 1, ws ++ [r], a5, c5, ?_, by simp; omega, ?_⟩
            · have : ((m - 1 : Nat) : Int) = (m : Int) - 1 := by omega
              rw [this]
            · have h := MA.out
              rw [List.length_append]
              exact ⟨h.blk, h.dn, h.wt, h.low, h.rdr.mono (by simp; omega), h.grown⟩
          case measure => simp [intOf]; omega
        exact AllReadyH.nil
      exact AllReadyH.nil
end Go.Proofs.Ytofedboeggdkaaa

/-! What is done ahead, drawn of a code (DrawAheadGame, DrawAheadSure, DrawAheadCodes, DrawAheadPush, DrawAheadKeep): two rows of its own, and an ask; no condition but a code of bytes. -/
namespace Go.Proofs.Ytofedboeggdkaaa
open Go.RowKit Go.Joins

theorem block_setA {w : World} {G : Nat} {p q r s t : Value} {T : TypeId} (hG : w.heap[G]? = some (.cells #[p, q, r, s, t] T (0, 0))) (a b c d e : Value) :
    (((((w.setCell ⟨G, 0, none⟩ a).setCell ⟨G, 1, none⟩ b).setCell ⟨G, 2, none⟩ c).setCell ⟨G, 3, none⟩ d).setCell ⟨G, 4, none⟩ e).heap[G]? = some (.cells #[a, b, c, d, e] T (0, 0)) := by
  exact block_setCell (i := 4) (block_setCell (i := 3) (block_setCell (i := 2) (block_setCell (i := 1) (block_setCell (i := 0) hG a) b) c) d) e
theorem below_setA {A w : World} {D G : Nat} (h : Below D A w) (hG : D ≤ G) (a b c d e : Value) : Below D A (((((w.setCell ⟨G, 0, none⟩ a).setCell ⟨G, 1, none⟩ b).setCell ⟨G, 2, none⟩ c).setCell ⟨G, 3, none⟩ d).setCell ⟨G, 4, none⟩ e) :=
  Below.setCell (Below.setCell (Below.setCell (Below.setCell (Below.setCell h hG _) hG _) hG _) hG _) hG _
theorem block_keptA {w : World} {G k : Nat} (hb : k ≠ G) (a b c d e : Value) : (((((w.setCell ⟨G, 0, none⟩ a).setCell ⟨G, 1, none⟩ b).setCell ⟨G, 2, none⟩ c).setCell ⟨G, 3, none⟩ d).setCell ⟨G, 4, none⟩ e).heap[k]? = w.heap[k]? := by
  repeat rw [Below.heap_setCell _ _ _ _ (by simpa using hb)]
/-- What is done ahead, in rows of its own. -/
def AheadAny (w : World) (e : Ending) (w' : World) : Prop :=
  ∃ (z : Ah) (a0 a1 : Option Addr) (c0 c1 : Nat), e = .returned (.agg #[.slice a0 z.dn.length c0, .slice a1 z.wt.length c1, .int .i64 z.bk]) ∧ z.dn.length ≤ 8 ∧ z.wt.length ≤ 5 ∧
    Row w' w.heap.size 34 a0 c0 5 Rq.cs z.dn ∧ Row w' w.heap.size 34 a1 c1 5 Rq.cs z.wt ∧ Below w.heap.size w w'
/-- What is done ahead, in rows of its own, and an ask. -/
def AheadAsk (w : World) (e : Ending) (w' : World) : Prop :=
  ∃ (z : Ah) (r : Rq) (a0 a1 : Option Addr) (c0 c1 : Nat), e = .returned (.tuple #[.agg #[.slice a0 z.dn.length c0, .slice a1 z.wt.length c1, .int .i64 z.bk], .agg #[.int .i64 r.c, .int .i64 r.n, .int .i64 r.o, .int .i64 r.x, .int .i64 r.y]]) ∧ z.dn.length ≤ 8 ∧ z.wt.length ≤ 5 ∧
    Row w' w.heap.size 34 a0 c0 5 Rq.cs z.dn ∧ Row w' w.heap.size 34 a1 c1 5 Rq.cs z.wt ∧ Below w.heap.size w w'

set_option maxRecDepth 100000 in
set_option maxHeartbeats 4000000 in
theorem DrawAheadGame_c (v : Value) (z : Bts) (w : World) (hz : IsBytes w v z) :
    Calls Try.prog 58 #[v] w (AheadAny w) := by
  have HZ := Lib.hid hz
  clear hz
  go_enter Try.func58, Try.ntmps58
  go_wp2_with fail
  obtain ⟨W, hW, sW, rW, kW⟩ := blocks1 w (.cells #[.slice none 0 0, .slice none 0 0, .int .i64 0] 30)
  rw [← hW]
  clear hW
  refine (l20Open_c v z W (HZ.out.below kW)).mono ?_
  rintro e w1 ⟨g, rfl, hg, r1, k1⟩
  have hl1 := r1.lt
  have R1 := Lib.hid (carryN k1 rW)
  have K1 := Lib.hid (below_next kW k1)
  clear k1 kW rW
  go_wp2_with fail
  refine (l20Ahead_c w1 g 0 r1 (by omega)).mono ?_
  rintro e w2 ⟨y, a0, a1, c0, c1, rfl, h8, h5, rd, rw', r2, k2⟩
  have hs2 := k2.size
  have K2 := Lib.hid (bel_grown K1.out k2 (by omega))
  have R2 := Lib.hid (carry k2 (by omega) R1.out)
  have RD := Lib.hid rd
  have RW := Lib.hid rw'
  have cR := cell_of_block R2.out
  have fR := unfrozen_of_block R2.out
  have lR := lt_of_block R2.out
  clear rd rw' k2 r2
  go_wp2_with fail
  refine bodyPost_ret (v := .agg #[.slice a0 y.dn.length c0, .slice a1 y.wt.length c1, .int .i64 y.bk]) (by simp [results, Try.results58, go_sem, cR]) rfl ?_
  exact ⟨y, a0, a1, c0, c1, rfl, h8, h5, (((RD.out.setOther (by simp; omega) _).setOther (by simp; omega) _).setOther (by simp; omega) _).low (by omega), (((RW.out.setOther (by simp; omega) _).setOther (by simp; omega) _).setOther (by simp; omega) _).low (by omega), below_set3 K2.out (Nat.le_refl _) _ _ _⟩

set_option maxRecDepth 100000 in
set_option maxHeartbeats 4000000 in
theorem DrawAheadSure_c (v : Value) (z : Bts) (w : World) (hz : IsBytes w v z) :
    Calls Try.prog 56 #[v] w (AheadAny w) := by
  have HZ := Lib.hid hz
  clear hz
  go_enter Try.func56, Try.ntmps56
  go_wp2_with fail
  obtain ⟨W, hW, sW, rW, kW⟩ := blocks1 w (.cells #[.slice none 0 0, .slice none 0 0, .int .i64 0] 30)
  rw [← hW]
  clear hW
  refine (l20Open_c v z W (HZ.out.below kW)).mono ?_
  rintro e w1 ⟨g, rfl, hg, r1, k1⟩
  have hl1 := r1.lt
  have R1 := Lib.hid (carryN k1 rW)
  have K1 := Lib.hid (below_next kW k1)
  clear k1 kW rW
  go_wp2_with fail
  refine (l20Ahead_c w1 g 0 r1 (by omega)).mono ?_
  rintro e w2 ⟨y, a0, a1, c0, c1, rfl, h8, h5, rd, rw', r2, k2⟩
  have hs2 := k2.size
  have K2 := Lib.hid (bel_grown K1.out k2 (by omega))
  have R2 := Lib.hid (carry k2 (by omega) R1.out)
  have RD := Lib.hid rd
  have RW := Lib.hid rw'
  have cR := cell_of_block R2.out
  have fR := unfrozen_of_block R2.out
  have lR := lt_of_block R2.out
  clear rd rw' k2 r2
  go_wp2_with fail
  refine bodyPost_ret (v := .agg #[.slice a0 y.dn.length c0, .slice a1 y.wt.length c1, .int .i64 y.bk]) (by simp [results, Try.results56, go_sem, cR]) rfl ?_
  exact ⟨y, a0, a1, c0, c1, rfl, h8, h5, (((RD.out.setOther (by simp; omega) _).setOther (by simp; omega) _).setOther (by simp; omega) _).low (by omega), (((RW.out.setOther (by simp; omega) _).setOther (by simp; omega) _).setOther (by simp; omega) _).low (by omega), below_set3 K2.out (Nat.le_refl _) _ _ _⟩

set_option maxRecDepth 100000 in
set_option maxHeartbeats 4000000 in
theorem DrawAheadCodes_c (v : Value) (z : Bts) (w : World) (hz : IsBytes w v z) :
    Calls Try.prog 45 #[v] w (AheadAny w) := by
  have HZ := Lib.hid hz
  clear hz
  go_enter Try.func45, Try.ntmps45
  go_wp2_with fail
  obtain ⟨W, hW, sW, rW, kW⟩ := blocks1 w (.cells #[.slice none 0 0, .slice none 0 0, .int .i64 0] 30)
  rw [← hW]
  clear hW
  refine (l20Open_c v z W (HZ.out.below kW)).mono ?_
  rintro e w1 ⟨g, rfl, hg, r1, k1⟩
  have hl1 := r1.lt
  have R1 := Lib.hid (carryN k1 rW)
  have K1 := Lib.hid (below_next kW k1)
  clear k1 kW rW
  go_wp2_with fail
  refine (l20Ahead_c w1 g 0 r1 (by omega)).mono ?_
  rintro e w2 ⟨y, a0, a1, c0, c1, rfl, h8, h5, rd, rw', r2, k2⟩
  have hs2 := k2.size
  have K2 := Lib.hid (bel_grown K1.out k2 (by omega))
  have R2 := Lib.hid (carry k2 (by omega) R1.out)
  have RD := Lib.hid rd
  have RW := Lib.hid rw'
  have cR := cell_of_block R2.out
  have fR := unfrozen_of_block R2.out
  have lR := lt_of_block R2.out
  clear rd rw' k2 r2
  go_wp2_with fail
  refine bodyPost_ret (v := .agg #[.slice a0 y.dn.length c0, .slice a1 y.wt.length c1, .int .i64 y.bk]) (by simp [results, Try.results45, go_sem, cR]) rfl ?_
  exact ⟨y, a0, a1, c0, c1, rfl, h8, h5, (((RD.out.setOther (by simp; omega) _).setOther (by simp; omega) _).setOther (by simp; omega) _).low (by omega), (((RW.out.setOther (by simp; omega) _).setOther (by simp; omega) _).setOther (by simp; omega) _).low (by omega), below_set3 K2.out (Nat.le_refl _) _ _ _⟩

set_option maxRecDepth 100000 in
set_option maxHeartbeats 8000000 in
theorem DrawAheadPush_c (v : Value) (z : Bts) (w : World) (hz : IsBytes w v z) :
    Calls Try.prog 25 #[v] w (AheadAsk w) := by
  have HZ := Lib.hid hz
  clear hz
  go_enter Try.func25, Try.ntmps25
  go_wp2_with fail
  obtain ⟨W, hW, sW, rW, qW, kW⟩ := blocks2 w (.cells #[.slice none 0 0, .slice none 0 0, .int .i64 0] 30) (.cells #[.int .i64 0, .int .i64 0, .int .i64 0, .int .i64 0, .int .i64 0] 34)
  rw [← hW]
  clear hW
  refine (l20Open_c v z W (HZ.out.below kW)).mono ?_
  rintro e w1 ⟨g, rfl, hg, r1, k1⟩
  have hl1 := r1.lt
  have R1 := Lib.hid (carryN k1 rW)
  have Q1 := Lib.hid (carryN k1 qW)
  have K1 := Lib.hid (below_next kW k1)
  clear k1 kW rW qW
  go_wp2_with fail
  refine (l20Ahead_c w1 g 0 r1 (by omega)).mono ?_
  rintro e w2 ⟨y, a0, a1, c0, c1, rfl, h8, h5, rd, rw', r2, k2⟩
  have hs2 := k2.size
  have K2 := Lib.hid (bel_grown K1.out k2 (by omega))
  have R2 := Lib.hid (carry k2 (by omega) R1.out)
  have Q2 := Lib.hid (carry k2 (by omega) Q1.out)
  have RD2 := Lib.hid rd
  have RW2 := Lib.hid rw'
  have D2 := Lib.hid r2
  clear rd rw' k2 r2 R1 Q1 K1 r1
  go_upto_region 3 with fail
  obtain ⟨w3, hw3, sw3, xB, k3⟩ := blocks1 w2 (.cells #[.slice a0 y.dn.length c0, .slice a1 y.wt.length c1, .int .i64 y.bk] 30)
  rw [← hw3]
  clear hw3 sw3
  obtain ⟨X, hX⟩ : ∃ X, X = w2.heap.size := ⟨_, rfl⟩
  have HX := Lib.hid (show g < X ∧ w.heap.size + 2 ≤ g ∧ w1.heap.size ≤ X by omega)
  rw [← hX] at xB ⊢
  have R3 := Lib.hid (carryN k3 R2.out)
  have Q3 := Lib.hid (carryN k3 Q2.out)
  have X3 := Lib.hid xB
  have RD3 := Lib.hid (RD2.out.below k3)
  have RW3 := Lib.hid (RW2.out.below k3)
  have D3 := Lib.hid (D2.out.below (k3.mono (by omega)))
  have K3 := Lib.hid (below_next K2.out k3)
  have L3 := Lib.hid (And.intro (fun b (hb : rowBlk a0 c0 = some b) => (RD2.out.blk hb).2) (fun b (hb : rowBlk a1 c1 = some b) => (RW2.out.blk hb).2))
  rw [← hX] at L3
  clear xB k3 R2 Q2 RD2 RW2 D2 K2 hX hs2
  refine wp_region_held_drew (S := fun w' => ∀ i, w'.cell? ⟨X, i, none⟩ = (#[.slice a0 y.dn.length c0, .slice a1 y.wt.length c1, .int .i64 y.bk] : Array Value)[i]?) (by kernel_rfl) (cell_of_block (show w3.drew.heap[X]? = _ from X3.out)) (fun hHeld => ?_)
  refine wpAnyH_take (i := 0) (oi := _) (v := ?_) (by (simp only [List.getElem?_toArray]; rfl)) (by kernel_rfl) (by kernel_rfl) (by kernel_rfl) (by exact fun _ _ _ h => h) (Or.inl ⟨by rfl, ?_⟩) (by assumption) ?_
  rotate_left
  · intro wS hSw
    go_simp
    all_goals first | with_reducible rfl | rw [if_neg (by omega)]
  simp only [Act.put, List.setIfInBounds_toArray, List.set]
  refine wpAnyH_take (i := 1) (oi := _) (v := ?_) (by (simp only [List.getElem?_toArray]; rfl)) (by kernel_rfl) (by kernel_rfl) (by kernel_rfl) (by exact fun _ _ _ h => h) (Or.inl ⟨by rfl, ?_⟩) (by assumption) ?_
  rotate_left
  · intro wS hSw
    go_simp
    all_goals first | with_reducible rfl | rw [if_neg (by omega)]
  simp only [Act.put, List.setIfInBounds_toArray, List.set]
  clear hHeld
  obtain ⟨wd, hwd, kwd⟩ : ∃ wd, wd = w3.drew ∧ Below w3.heap.size w3 wd := ⟨_, rfl, Below.drew (Below.refl _ _)⟩
  rw [← hwd]
  clear hwd
  refine wpAnyH_ready (rs := [2]) (by kernel_rfl) (by simp) ?_
  refine AllReadyH.cons (o := _) (by (simp only [List.getElem?_toArray]; rfl)) (fun K hK => ?_) AllReadyH.nil
  go_simp
  refine (l20AnyReq_c wd g _ (D3.out.below (kwd.mono D3.out.lt)) (by omega)).mono ?_
  rintro e u1 ⟨r, rfl, rr, kk⟩
  have hgw := D3.out.lt
  have hB := lt_of_block X3.out
  have Ku := Lib.hid (bel_grown (below_next K3.out kwd) kk (by have := HX.out; omega))
  have Ru := Lib.hid (carry kk (by have := HX.out; omega) (carryN kwd R3.out))
  have Qu := Lib.hid (carry kk (by have := HX.out; omega) (carryN kwd Q3.out))
  have Xu := Lib.hid (carry kk (by have := HX.out; omega) (carryN kwd X3.out))
  have RDu := Lib.hid ((RD3.out.below kwd).kept kk (fun b hb => by have := (RD3.out.blk hb).1; intro e; injection e; omega))
  have RWu := Lib.hid ((RW3.out.below kwd).kept kk (fun b hb => by have := (RW3.out.blk hb).1; intro e; injection e; omega))
  clear kk rr kwd
  refine hK.out _ _ (cell_of_block Xu.out) (fun hHeld => ?_)
  clear hK K
  try simp only [Act.put, List.setIfInBounds_toArray, List.set]
  clear hHeld
  have hne1 : ¬ (w.heap.size = X) := by have := HX.out; omega
  have hne2 : ¬ (w.heap.size + 1 = X) := by have := HX.out; omega
  have hne3 : ¬ (X = w.heap.size) := by have := HX.out; omega
  have hne4 : ¬ (X = w.heap.size + 1) := by have := HX.out; omega
  have cR := cell_of_block Ru.out
  have fR := unfrozen_of_block Ru.out
  have lR := lt_of_block Ru.out
  refine wpAnyH_ready (rs := [3]) (by kernel_rfl) (by simp) ?_
  refine AllReadyH.cons (o := _) (by (simp only [List.getElem?_toArray]; rfl)) (fun K hK => ?_) AllReadyH.nil
  go_simp
  have Xs := (block_kept3 (G := w.heap.size) hne3 (.slice a0 y.dn.length c0) (.slice a1 y.wt.length c1) (.int .i64 y.bk)).trans Xu.out
  have Qs := (block_kept3 (G := w.heap.size) (show w.heap.size + 1 ≠ w.heap.size by omega) (.slice a0 y.dn.length c0) (.slice a1 y.wt.length c1) (.int .i64 y.bk)).trans Qu.out
  have Rs := block_set3 Ru.out (.slice a0 y.dn.length c0) (.slice a1 y.wt.length c1) (.int .i64 y.bk)
  have Ks := below_set3 Ku.out (Nat.le_refl _) (.slice a0 y.dn.length c0) (.slice a1 y.wt.length c1) (.int .i64 y.bk)
  have RDs := ((RDu.out.setOther (p := ⟨w.heap.size, 0, none⟩) (by simp; have := HX.out; omega) (.slice a0 y.dn.length c0)).setOther (p := ⟨w.heap.size, 1, none⟩) (by simp; have := HX.out; omega) (.slice a1 y.wt.length c1)).setOther (p := ⟨w.heap.size, 2, none⟩) (by simp; have := HX.out; omega) (.int .i64 y.bk)
  have RWs := ((RWu.out.setOther (p := ⟨w.heap.size, 0, none⟩) (by simp; have := HX.out; omega) (.slice a0 y.dn.length c0)).setOther (p := ⟨w.heap.size, 1, none⟩) (by simp; have := HX.out; omega) (.slice a1 y.wt.length c1)).setOther (p := ⟨w.heap.size, 2, none⟩) (by simp; have := HX.out; omega) (.int .i64 y.bk)
  obtain ⟨u2, hu2⟩ : ∃ V, V = ((u1.setCell ⟨w.heap.size, 0, none⟩ (.slice a0 y.dn.length c0)).setCell ⟨w.heap.size, 1, none⟩ (.slice a1 y.wt.length c1)).setCell ⟨w.heap.size, 2, none⟩ (.int .i64 y.bk) := ⟨_, rfl⟩
  rw [← hu2] at Xs Qs Rs Ks RDs RWs ⊢
  replace Xs := Lib.hid Xs
  replace Rs := Lib.hid Rs
  replace Ks := Lib.hid Ks
  replace RDs := Lib.hid RDs
  replace RWs := Lib.hid RWs
  have QS := Lib.hid Qs
  clear hu2 cR fR lR Qs
  refine hK.out _ _ (cell_of_block Xs.out) (fun hHeld => ?_)
  clear hK K
  try simp only [Act.put, List.setIfInBounds_toArray, List.set]
  clear hHeld
  have cQ := cell_of_block QS.out
  have fQ := unfrozen_of_block QS.out
  have lQ := lt_of_block QS.out
  refine wpAnyH_ready (rs := [4]) (by kernel_rfl) (by simp) ?_
  refine AllReadyH.cons (o := _) (by (simp only [List.getElem?_toArray]; rfl)) (fun K hK => ?_) AllReadyH.nil
  go_simp
  refine hK.out _ _ (cell_of_block (show _ = _ from (block_keptA (by have := HX.out; omega) _ _ _ _ _).trans Xs.out)) (fun hHeld => ?_)
  clear hK K
  try simp only [Act.put, List.setIfInBounds_toArray, List.set]
  refine wpAnyH_done (by kernel_rfl) ?_ _
  clear hHeld
  have cR := cell_of_block Rs.out
  have hr1 : ¬ (w.heap.size = w.heap.size + 1) := by omega
  go_wp2_with fail
  refine bodyPost_ret (v := .tuple #[.agg #[.slice a0 y.dn.length c0, .slice a1 y.wt.length c1, .int .i64 y.bk], .agg #[.int .i64 r.c, .int .i64 r.n, .int .i64 r.o, .int .i64 r.x, .int .i64 r.y]]) (by simp [results, Try.results25, go_sem, cR, cQ]) rfl ?_
  refine ⟨y, r, a0, a1, c0, c1, rfl, h8, h5, ?_, ?_, below_setA Ks.out (Nat.le_succ _) _ _ _ _ _⟩
  · exact (((((RDs.out.setOther (by simp; have := HX.out; omega) _).setOther (by simp; have := HX.out; omega) _).setOther (by simp; have := HX.out; omega) _).setOther (by simp; have := HX.out; omega) _).setOther (by simp; have := HX.out; omega) _).low (by have := HX.out; omega)
  · exact (((((RWs.out.setOther (by simp; have := HX.out; omega) _).setOther (by simp; have := HX.out; omega) _).setOther (by simp; have := HX.out; omega) _).setOther (by simp; have := HX.out; omega) _).setOther (by simp; have := HX.out; omega) _).low (by have := HX.out; omega)

set_option maxRecDepth 100000 in
set_option maxHeartbeats 8000000 in
theorem DrawAheadKeep_c (v : Value) (z : Bts) (w : World) (hz : IsBytes w v z) :
    Calls Try.prog 34 #[v] w (AheadAsk w) := by
  have HZ := Lib.hid hz
  clear hz
  go_enter Try.func34, Try.ntmps34
  go_wp2_with fail
  obtain ⟨W, hW, sW, rW, qW, kW⟩ := blocks2 w (.cells #[.slice none 0 0, .slice none 0 0, .int .i64 0] 30) (.cells #[.int .i64 0, .int .i64 0, .int .i64 0, .int .i64 0, .int .i64 0] 34)
  rw [← hW]
  clear hW
  refine (l20Open_c v z W (HZ.out.below kW)).mono ?_
  rintro e w1 ⟨g, rfl, hg, r1, k1⟩
  have hl1 := r1.lt
  have R1 := Lib.hid (carryN k1 rW)
  have Q1 := Lib.hid (carryN k1 qW)
  have K1 := Lib.hid (below_next kW k1)
  clear k1 kW rW qW
  go_wp2_with fail
  refine (l20Ahead_c w1 g 0 r1 (by omega)).mono ?_
  rintro e w2 ⟨y, a0, a1, c0, c1, rfl, h8, h5, rd, rw', r2, k2⟩
  have hs2 := k2.size
  have K2 := Lib.hid (bel_grown K1.out k2 (by omega))
  have R2 := Lib.hid (carry k2 (by omega) R1.out)
  have Q2 := Lib.hid (carry k2 (by omega) Q1.out)
  have RD2 := Lib.hid rd
  have RW2 := Lib.hid rw'
  have D2 := Lib.hid r2
  clear rd rw' k2 r2 R1 Q1 K1 r1
  go_upto_region 3 with fail
  obtain ⟨w3, hw3, sw3, xB, k3⟩ := blocks1 w2 (.cells #[.slice a0 y.dn.length c0, .slice a1 y.wt.length c1, .int .i64 y.bk] 30)
  rw [← hw3]
  clear hw3 sw3
  obtain ⟨X, hX⟩ : ∃ X, X = w2.heap.size := ⟨_, rfl⟩
  have HX := Lib.hid (show g < X ∧ w.heap.size + 2 ≤ g ∧ w1.heap.size ≤ X by omega)
  rw [← hX] at xB ⊢
  have R3 := Lib.hid (carryN k3 R2.out)
  have Q3 := Lib.hid (carryN k3 Q2.out)
  have X3 := Lib.hid xB
  have RD3 := Lib.hid (RD2.out.below k3)
  have RW3 := Lib.hid (RW2.out.below k3)
  have D3 := Lib.hid (D2.out.below (k3.mono (by omega)))
  have K3 := Lib.hid (below_next K2.out k3)
  have L3 := Lib.hid (And.intro (fun b (hb : rowBlk a0 c0 = some b) => (RD2.out.blk hb).2) (fun b (hb : rowBlk a1 c1 = some b) => (RW2.out.blk hb).2))
  rw [← hX] at L3
  clear xB k3 R2 Q2 RD2 RW2 D2 K2 hX hs2
  have cX := cell_of_block X3.out
  have lX := lt_of_block X3.out
  have hsl := (RW3.out.sl five_len).bounds
  have hlc := hsl.2.1
  have hmx := hsl.2.2.1
  unfold maxLen at hmx
  clear hsl
  by_cases hw0 : y.wt.length = 0
  · have hw0' : ¬ ((0 : Int) < ((y.wt.length : Nat) : Int)) := by omega
    clear hw0
    go_wp2_with fail
    clear cX lX hw0'
    refine wp_region_held_drew (S := fun w' => ∀ i, w'.cell? ⟨X, i, none⟩ = (#[.slice a0 y.dn.length c0, .slice a1 y.wt.length c1, .int .i64 y.bk] : Array Value)[i]?) (by kernel_rfl) (cell_of_block (show w3.drew.heap[X]? = _ from X3.out)) (fun hHeld => ?_)
    refine wpAnyH_take (i := 0) (oi := _) (v := ?_) (by (simp only [List.getElem?_toArray]; rfl)) (by kernel_rfl) (by kernel_rfl) (by kernel_rfl) (by exact fun _ _ _ h => h) (Or.inl ⟨by rfl, ?_⟩) (by assumption) ?_
    rotate_left
    · intro wS hSw
      go_simp
      all_goals first | with_reducible rfl | rw [if_neg (by omega)]
    simp only [Act.put, List.setIfInBounds_toArray, List.set]
    refine wpAnyH_take (i := 1) (oi := _) (v := ?_) (by (simp only [List.getElem?_toArray]; rfl)) (by kernel_rfl) (by kernel_rfl) (by kernel_rfl) (by exact fun _ _ _ h => h) (Or.inl ⟨by rfl, ?_⟩) (by assumption) ?_
    rotate_left
    · intro wS hSw
      go_simp
      all_goals first | with_reducible rfl | rw [if_neg (by omega)]
    simp only [Act.put, List.setIfInBounds_toArray, List.set]
    clear hHeld
    obtain ⟨wd, hwd, kwd⟩ : ∃ wd, wd = w3.drew ∧ Below w3.heap.size w3 wd := ⟨_, rfl, Below.drew (Below.refl _ _)⟩
    rw [← hwd]
    clear hwd
    refine wpAnyH_ready (rs := [2]) (by kernel_rfl) (by simp) ?_
    refine AllReadyH.cons (o := _) (by (simp only [List.getElem?_toArray]; rfl)) (fun K hK => ?_) AllReadyH.nil
    go_simp
    refine (l20AnyReq_c wd g _ (D3.out.below (kwd.mono D3.out.lt)) (by omega)).mono ?_
    rintro e u1 ⟨r, rfl, rr, kk⟩
    have hgw := D3.out.lt
    have hB := lt_of_block X3.out
    have Ku := Lib.hid (bel_grown (below_next K3.out kwd) kk (by have := HX.out; omega))
    have Ru := Lib.hid (carry kk (by have := HX.out; omega) (carryN kwd R3.out))
    have Qu := Lib.hid (carry kk (by have := HX.out; omega) (carryN kwd Q3.out))
    have Xu := Lib.hid (carry kk (by have := HX.out; omega) (carryN kwd X3.out))
    have RDu := Lib.hid ((RD3.out.below kwd).kept kk (fun b hb => by have := (RD3.out.blk hb).1; intro e; injection e; omega))
    have RWu := Lib.hid ((RW3.out.below kwd).kept kk (fun b hb => by have := (RW3.out.blk hb).1; intro e; injection e; omega))
    clear kk rr kwd
    refine hK.out _ _ (cell_of_block Xu.out) (fun hHeld => ?_)
    clear hK K
    try simp only [Act.put, List.setIfInBounds_toArray, List.set]
    clear hHeld
    have hne1 : ¬ (w.heap.size = X) := by have := HX.out; omega
    have hne2 : ¬ (w.heap.size + 1 = X) := by have := HX.out; omega
    have hne3 : ¬ (X = w.heap.size) := by have := HX.out; omega
    have hne4 : ¬ (X = w.heap.size + 1) := by have := HX.out; omega
    have cR := cell_of_block Ru.out
    have fR := unfrozen_of_block Ru.out
    have lR := lt_of_block Ru.out
    refine wpAnyH_ready (rs := [3]) (by kernel_rfl) (by simp) ?_
    refine AllReadyH.cons (o := _) (by (simp only [List.getElem?_toArray]; rfl)) (fun K hK => ?_) AllReadyH.nil
    go_simp
    have Xs := (block_kept3 (G := w.heap.size) hne3 (.slice a0 y.dn.length c0) (.slice a1 y.wt.length c1) (.int .i64 y.bk)).trans Xu.out
    have Qs := (block_kept3 (G := w.heap.size) (show w.heap.size + 1 ≠ w.heap.size by omega) (.slice a0 y.dn.length c0) (.slice a1 y.wt.length c1) (.int .i64 y.bk)).trans Qu.out
    have Rs := block_set3 Ru.out (.slice a0 y.dn.length c0) (.slice a1 y.wt.length c1) (.int .i64 y.bk)
    have Ks := below_set3 Ku.out (Nat.le_refl _) (.slice a0 y.dn.length c0) (.slice a1 y.wt.length c1) (.int .i64 y.bk)
    have RDs := ((RDu.out.setOther (p := ⟨w.heap.size, 0, none⟩) (by simp; have := HX.out; omega) (.slice a0 y.dn.length c0)).setOther (p := ⟨w.heap.size, 1, none⟩) (by simp; have := HX.out; omega) (.slice a1 y.wt.length c1)).setOther (p := ⟨w.heap.size, 2, none⟩) (by simp; have := HX.out; omega) (.int .i64 y.bk)
    have RWs := ((RWu.out.setOther (p := ⟨w.heap.size, 0, none⟩) (by simp; have := HX.out; omega) (.slice a0 y.dn.length c0)).setOther (p := ⟨w.heap.size, 1, none⟩) (by simp; have := HX.out; omega) (.slice a1 y.wt.length c1)).setOther (p := ⟨w.heap.size, 2, none⟩) (by simp; have := HX.out; omega) (.int .i64 y.bk)
    obtain ⟨u2, hu2⟩ : ∃ V, V = ((u1.setCell ⟨w.heap.size, 0, none⟩ (.slice a0 y.dn.length c0)).setCell ⟨w.heap.size, 1, none⟩ (.slice a1 y.wt.length c1)).setCell ⟨w.heap.size, 2, none⟩ (.int .i64 y.bk) := ⟨_, rfl⟩
    rw [← hu2] at Xs Qs Rs Ks RDs RWs ⊢
    replace Xs := Lib.hid Xs
    replace Rs := Lib.hid Rs
    replace Ks := Lib.hid Ks
    replace RDs := Lib.hid RDs
    replace RWs := Lib.hid RWs
    have QS := Lib.hid Qs
    clear hu2 cR fR lR Qs
    refine hK.out _ _ (cell_of_block Xs.out) (fun hHeld => ?_)
    clear hK K
    try simp only [Act.put, List.setIfInBounds_toArray, List.set]
    clear hHeld
    have cQ := cell_of_block QS.out
    have fQ := unfrozen_of_block QS.out
    have lQ := lt_of_block QS.out
    refine wpAnyH_ready (rs := [4]) (by kernel_rfl) (by simp) ?_
    refine AllReadyH.cons (o := _) (by (simp only [List.getElem?_toArray]; rfl)) (fun K hK => ?_) AllReadyH.nil
    go_simp
    refine hK.out _ _ (cell_of_block (show _ = _ from (block_keptA (by have := HX.out; omega) _ _ _ _ _).trans Xs.out)) (fun hHeld => ?_)
    clear hK K
    try simp only [Act.put, List.setIfInBounds_toArray, List.set]
    refine wpAnyH_done (by kernel_rfl) ?_ _
    clear hHeld
    have cR := cell_of_block Rs.out
    have hr1 : ¬ (w.heap.size = w.heap.size + 1) := by omega
    go_wp2_with fail
    refine bodyPost_ret (v := .tuple #[.agg #[.slice a0 y.dn.length c0, .slice a1 y.wt.length c1, .int .i64 y.bk], .agg #[.int .i64 r.c, .int .i64 r.n, .int .i64 r.o, .int .i64 r.x, .int .i64 r.y]]) (by simp [results, Try.results34, go_sem, cR, cQ]) rfl ?_
    refine ⟨y, r, a0, a1, c0, c1, rfl, h8, h5, ?_, ?_, below_setA Ks.out (Nat.le_succ _) _ _ _ _ _⟩
    · exact (((((RDs.out.setOther (by simp; have := HX.out; omega) _).setOther (by simp; have := HX.out; omega) _).setOther (by simp; have := HX.out; omega) _).setOther (by simp; have := HX.out; omega) _).setOther (by simp; have := HX.out; omega) _).low (by have := HX.out; omega)
    · exact (((((RWs.out.setOther (by simp; have := HX.out; omega) _).setOther (by simp; have := HX.out; omega) _).setOther (by simp; have := HX.out; omega) _).setOther (by simp; have := HX.out; omega) _).setOther (by simp; have := HX.out; omega) _).low (by have := HX.out; omega)
  
  · have hw0' : (0 : Int) < ((y.wt.length : Nat) : Int) := by omega
    go_wp2_with fail
    refine (pick_c w3 g _ 4 D3.out (by omega) (by omega)).mono ?_
    rintro e w4 ⟨p, rfl, hp0, -, -, r4, k4⟩
    have hgw3 := D3.out.lt
    have hB3 := lt_of_block X3.out
    have K4 := Lib.hid (bel_grown K3.out k4 (by have := HX.out; omega))
    have R4 := Lib.hid (carry k4 (by have := HX.out; omega) R3.out)
    have Q4 := Lib.hid (carry k4 (by have := HX.out; omega) Q3.out)
    have X4 := Lib.hid (carry k4 (by have := HX.out; omega) X3.out)
    have RD4 := Lib.hid (RD3.out.kept k4 (fun b hb => by have := (RD3.out.blk hb).1; intro e; injection e; omega))
    have RW4 := Lib.hid (RW3.out.kept k4 (fun b hb => by have := (RW3.out.blk hb).1; intro e; injection e; omega))
    have D4 := Lib.hid r4
    clear r4 k4 cX lX K3 R3 Q3 X3 RD3 RW3 D3 hgw3 hB3
    by_cases hp : (0 : Int) < p
    · obtain ⟨F, cur, hF, hFB, hFb, hFs, hFq⟩ := RW4.out.own (by omega)
      subst hF
      have hFX : F < X := L3.out.2 F (by simp [rowBlk]; omega)
      have F4 := Lib.hid hFb
      have HF := Lib.hid (And.intro hFB hFX)
      have HFQ := Lib.hid hFq
      clear hFb hFB hFX hFs hFq
      go_wp2_with fail
      refine wp_region_held_drew (S := fun w' => (∀ i, w'.cell? ⟨X, i, none⟩ = (#[.slice a0 y.dn.length c0, .slice (some ⟨F, 0, none⟩) y.wt.length c1, .int .i64 y.bk] : Array Value)[i]?) ∧ (∀ i, w'.cell? ⟨F, i, none⟩ = cur[i]?)) (by kernel_rfl) ⟨cell_of_block (show w4.drew.heap[X]? = _ from X4.out), cell_of_block (show w4.drew.heap[F]? = _ from F4.out)⟩ (fun hHeld => ?_)
      refine wpAnyH_take (i := 0) (oi := _) (v := ?_) (by (simp only [List.getElem?_toArray]; rfl)) (by kernel_rfl) (by kernel_rfl) (by kernel_rfl) (by exact fun _ _ _ h => h) (Or.inl ⟨by rfl, ?_⟩) (by assumption) ?_
      rotate_left
      · intro wS hSw
        go_simp
        all_goals first | with_reducible rfl | rw [if_neg (by omega)]
      simp only [Act.put, List.setIfInBounds_toArray, List.set]
      refine wpAnyH_take (i := 1) (oi := _) (v := ?_) (by (simp only [List.getElem?_toArray]; rfl)) (by kernel_rfl) (by kernel_rfl) (by kernel_rfl) (by exact fun _ _ _ h => h) (Or.inl ⟨by rfl, ?_⟩) (by assumption) ?_
      rotate_left
      · intro wS hSw
        go_simp
        all_goals first | with_reducible rfl | rw [if_neg (by omega)]
      simp only [Act.put, List.setIfInBounds_toArray, List.set]
      refine wpAnyH_take (i := 2) (oi := _) (v := ?_) (by (simp only [List.getElem?_toArray]; rfl)) (by kernel_rfl) (by kernel_rfl) (by kernel_rfl) (by exact fun _ _ _ h => h) (Or.inl ⟨by rfl, ?_⟩) (by assumption) ?_
      rotate_left
      · intro wS hSw
        go_simp
        all_goals first | with_reducible rfl | rw [if_neg (by omega)]
      simp only [Act.put, List.setIfInBounds_toArray, List.set]
      refine wpAnyH_take (i := 3) (oi := _) (v := ?_) (by (simp only [List.getElem?_toArray]; rfl)) (by kernel_rfl) (by kernel_rfl) (by kernel_rfl) (by exact fun _ _ _ h => h) (Or.inl ⟨by rfl, ?_⟩) (by assumption) ?_
      rotate_left
      · intro wS hSw
        go_simp
        all_goals first | with_reducible rfl | rw [if_neg (by omega)]
      simp only [Act.put, List.setIfInBounds_toArray, List.set]
      refine wpAnyH_take (i := 4) (oi := _) (v := ?_) (by (simp only [List.getElem?_toArray]; rfl)) (by kernel_rfl) (by kernel_rfl) (by kernel_rfl) (by exact fun _ _ _ h => h) (Or.inl ⟨by rfl, ?_⟩) (by assumption) ?_
      rotate_left
      · intro wS hSw
        go_simp
        all_goals first | with_reducible rfl | rw [if_neg (by omega)]
      simp only [Act.put, List.setIfInBounds_toArray, List.set]
      refine wpAnyH_take (i := 5) (oi := _) (v := ?_) (by (simp only [List.getElem?_toArray]; rfl)) (by kernel_rfl) (by kernel_rfl) (by kernel_rfl) (by exact fun _ _ _ h => h) (Or.inl ⟨by rfl, ?_⟩) (by assumption) ?_
      rotate_left
      · intro wS hSw
        go_simp
        all_goals first | with_reducible rfl | rw [if_neg (by omega)]
      simp only [Act.put, List.setIfInBounds_toArray, List.set]
      refine wpAnyH_take (i := 6) (oi := _) (v := ?_) (by (simp only [List.getElem?_toArray]; rfl)) (by kernel_rfl) (by kernel_rfl) (by kernel_rfl) (by exact fun _ _ _ h => h) (Or.inl ⟨by rfl, ?_⟩) (by assumption) ?_
      rotate_left
      · intro wS hSw
        go_simp
        all_goals first | with_reducible rfl | rw [if_neg (by omega)]
      simp only [Act.put, List.setIfInBounds_toArray, List.set]
      refine wpAnyH_take (i := 7) (oi := _) (v := ?_) (by (simp only [List.getElem?_toArray]; rfl)) (by kernel_rfl) (by kernel_rfl) (by kernel_rfl) (by exact fun _ _ _ h => h) (Or.inl ⟨by rfl, ?_⟩) (by assumption) ?_
      rotate_left
      · intro wS hSw
        go_simp
        all_goals first | with_reducible rfl | rw [if_neg (by omega)]
      simp only [Act.put, List.setIfInBounds_toArray, List.set]
      clear hHeld
      obtain ⟨wd, hwd, kwd⟩ : ∃ wd, wd = w4.drew ∧ Below w4.heap.size w4 wd := ⟨_, rfl, Below.drew (Below.refl _ _)⟩
      rw [← hwd]
      clear hwd
      have hgw4 := D4.out.lt
      have X5 := Lib.hid (carryN kwd X4.out)
      have F5 := Lib.hid (carryN kwd F4.out)
      have D5 := Lib.hid (D4.out.below (kwd.mono D4.out.lt))
      have R5 := Lib.hid (carryN kwd R4.out)
      have Q5 := Lib.hid (carryN kwd Q4.out)
      have RD5 := Lib.hid (RD4.out.below kwd)
      have RW5 := Lib.hid (RW4.out.below kwd)
      have K5 := Lib.hid (below_next K4.out kwd)
      clear kwd X4 F4 D4 R4 Q4 RD4 RW4 K4
      refine wpAnyH_ready (rs := [8]) (by kernel_rfl) (by simp) ?_
      refine AllReadyH.cons (o := _) (by (simp only [List.getElem?_toArray]; rfl)) (fun K hK => ?_) AllReadyH.nil
      go_simp
      refine (pick_c wd g _ ((y.wt.length : Nat) : Int) D5.out (by omega) (by omega)).mono ?_
      rintro e u1 ⟨q, rfl, hq0, hq1, -, r6, k6⟩
      replace hq1 := hq1 (by omega)
      have X6 := Lib.hid (carry k6 (by have := HX.out; omega) X5.out)
      have F6 := Lib.hid (carry k6 (by have := HX.out; have := HF.out; omega) F5.out)
      have hl5x := D5.out.lt
      have D6 := Lib.hid r6
      have R6 := Lib.hid (carry k6 (by have := HX.out; omega) R5.out)
      have Q6 := Lib.hid (carry k6 (by have := HX.out; omega) Q5.out)
      have RD6 := Lib.hid (RD5.out.kept k6 (fun b hb => by have := (RD5.out.blk hb).1; intro e; injection e; omega))
      have RW6 := Lib.hid (RW5.out.kept k6 (fun b hb => by have := (RW5.out.blk hb).1; intro e; injection e; omega))
      have hsz5 := lt_of_block X5.out
      have K6 := Lib.hid (bel_grown K5.out k6 (by have := HX.out; omega))
      clear k6 r6 X5 F5 D5 R5 Q5 RD5 RW5 K5 hl5x hsz5
      refine hK.out _ _ ⟨cell_of_block X6.out, cell_of_block F6.out⟩ (fun hHeld => ?_)
      clear hK K
      try simp only [Act.put, List.setIfInBounds_toArray, List.set]
      clear hHeld
      refine wpAnyH_ready (rs := [9]) (by kernel_rfl) (by simp) ?_
      refine AllReadyH.cons (o := _) (by (simp only [List.getElem?_toArray]; rfl)) (fun K hK => ?_) AllReadyH.nil
      go_simp
      obtain ⟨u2, hu2, su2, nB, k7⟩ := blocks1 u1 (.cells #[.int .i64 0, .int .i64 0, .int .i64 q] 3)
      rw [← hu2]
      clear hu2 su2
      have X7 := Lib.hid (carryN k7 X6.out)
      have F7 := Lib.hid (carryN k7 F6.out)
      have D7 := Lib.hid (D6.out.below (k7.mono D6.out.lt))
      have R7 := Lib.hid (carryN k7 R6.out)
      have Q7 := Lib.hid (carryN k7 Q6.out)
      have RD7 := Lib.hid (RD6.out.below k7)
      have RW7 := Lib.hid (RW6.out.below k7)
      have K7 := Lib.hid (below_next K6.out k7)
      have hl6 := D6.out.lt
      clear k7 X6 F6 D6 R6 Q6 RD6 RW6 K6
      refine hK.out _ _ ⟨cell_of_block X7.out, cell_of_block F7.out⟩ (fun hHeld => ?_)
      clear hK K
      try simp only [Act.put, List.setIfInBounds_toArray, List.set]
      clear hHeld
      refine wpAnyH_ready (rs := [10]) (by kernel_rfl) (by simp) ?_
      refine AllReadyH.cons (o := _) (by (simp only [List.getElem?_toArray]; rfl)) (fun K hK => ?_) AllReadyH.nil
      go_simp
      refine (one_c u2 g _ u1.heap.size 3 _ [0, 0, q] _ D7.out (by omega) (by omega) nB rfl rfl (by decide) (by decide)).mono ?_
      rintro e u3 ⟨v3, hmem, rfl, r8, k8⟩
      obtain ⟨k, rfl, hk⟩ : ∃ k : Nat, v3 = (k : Int) ∧ k < y.wt.length := by
        have h : v3 = 0 ∨ v3 = q := by simpa using hmem
        rcases h with rfl | rfl
        · exact ⟨0, rfl, by omega⟩
        · exact ⟨v3.toNat, by omega, by omega⟩
      have X8 := Lib.hid (carry k8 (by have := HX.out; omega) X7.out)
      have F8 := Lib.hid (carry k8 (by have := HX.out; have := HF.out; omega) F7.out)
      have hl7x := D7.out.lt
      have D8 := Lib.hid r8
      have R8 := Lib.hid (carry k8 (by have := HX.out; omega) R7.out)
      have Q8 := Lib.hid (carry k8 (by have := HX.out; omega) Q7.out)
      have RD8 := Lib.hid (RD7.out.kept k8 (fun b hb => by have := (RD7.out.blk hb).1; intro e; injection e; omega))
      have RW8 := Lib.hid (RW7.out.kept k8 (fun b hb => by have := (RW7.out.blk hb).1; intro e; injection e; omega))
      have hsz7 := lt_of_block X7.out
      have K8 := Lib.hid (bel_grown K7.out k8 (by have := HX.out; omega))
      clear k8 r8 X7 F7 D7 R7 Q7 RD7 RW7 K7 hl7x hsz7
      clear hmem nB hl6
      refine hK.out _ _ ⟨cell_of_block X8.out, cell_of_block F8.out⟩ (fun hHeld => ?_)
      clear hK K
      try simp only [Act.put, List.setIfInBounds_toArray, List.set]
      have hk0 : (0 : Int) ≤ (k : Int) := by omega
      have hk1 : (k : Int) < ((y.wt.length : Nat) : Int) := by omega
      have e0 := (HFQ.out (k * 5) (by omega)).trans (flat_get five_len y.wt k hk 0 (by decide))
      have e1 := (HFQ.out (k * 5 + 1) (by omega)).trans (flat_get five_len y.wt k hk 1 (by decide))
      have e2 := (HFQ.out (k * 5 + 2) (by omega)).trans (flat_get five_len y.wt k hk 2 (by decide))
      have e3 := (HFQ.out (k * 5 + 3) (by omega)).trans (flat_get five_len y.wt k hk 3 (by decide))
      have e4 := (HFQ.out (k * 5 + 4) (by omega)).trans (flat_get five_len y.wt k hk 4 (by decide))
      obtain ⟨r, hr⟩ : ∃ r, r = y.wt[k] := ⟨_, rfl⟩
      rw [← hr] at e0 e1 e2 e3 e4
      replace e0 : cur[k * 5]? = some (.int .i64 r.c) := e0
      replace e1 : cur[k * 5 + 1]? = some (.int .i64 r.n) := e1
      replace e2 : cur[k * 5 + 2]? = some (.int .i64 r.o) := e2
      replace e3 : cur[k * 5 + 3]? = some (.int .i64 r.x) := e3
      replace e4 : cur[k * 5 + 4]? = some (.int .i64 r.y) := e4
      clear hr
      refine wpAnyH_take (i := 11) (oi := _) (v := ?_) (by (simp only [List.getElem?_toArray]; rfl)) (by kernel_rfl) (by kernel_rfl) (by kernel_rfl) (by exact fun _ _ _ h => h) (Or.inl ⟨by rfl, ?_⟩) (by assumption) ?_
      rotate_left
      · intro wS hSw
        go_simp
        all_goals first | with_reducible rfl | rw [if_neg (by omega)]
      simp only [Act.put, List.setIfInBounds_toArray, List.set]
      refine wpAnyH_take (i := 12) (oi := _) (v := ?_) (by (simp only [List.getElem?_toArray]; rfl)) (by kernel_rfl) (by kernel_rfl) (by kernel_rfl) (by exact fun _ _ _ h => h) (Or.inl ⟨by rfl, ?_⟩) (by assumption) ?_
      rotate_left
      · intro wS hSw
        go_simp
        all_goals first | with_reducible rfl | rw [if_neg (by omega)]
      simp only [Act.put, List.setIfInBounds_toArray, List.set]
      clear e0 e1 e2 e3 e4
      clear hHeld
      have hneF := HF.out
      have hne1 : ¬ (w.heap.size = X) := by have := HX.out; omega
      have hne2 : ¬ (w.heap.size + 1 = X) := by have := HX.out; omega
      have hne3 : ¬ (X = w.heap.size) := by have := HX.out; omega
      have hne4 : ¬ (X = w.heap.size + 1) := by have := HX.out; omega
      have cR := cell_of_block R8.out
      have fR := unfrozen_of_block R8.out
      have lR := lt_of_block R8.out
      refine wpAnyH_ready (rs := [13]) (by kernel_rfl) (by simp) ?_
      refine AllReadyH.cons (o := _) (by (simp only [List.getElem?_toArray]; rfl)) (fun K hK => ?_) AllReadyH.nil
      go_simp
      have Xs := (block_kept3 (G := w.heap.size) hne3 (.slice a0 y.dn.length c0) (.slice (some ⟨F, 0, none⟩) y.wt.length c1) (.int .i64 y.bk)).trans X8.out
      have Qs := (block_kept3 (G := w.heap.size) (show w.heap.size + 1 ≠ w.heap.size by omega) (.slice a0 y.dn.length c0) (.slice (some ⟨F, 0, none⟩) y.wt.length c1) (.int .i64 y.bk)).trans Q8.out
      have Rs := block_set3 R8.out (.slice a0 y.dn.length c0) (.slice (some ⟨F, 0, none⟩) y.wt.length c1) (.int .i64 y.bk)
      have Ks := below_set3 K8.out (Nat.le_refl _) (.slice a0 y.dn.length c0) (.slice (some ⟨F, 0, none⟩) y.wt.length c1) (.int .i64 y.bk)
      have RDs := ((RD8.out.setOther (p := ⟨w.heap.size, 0, none⟩) (by simp; have := HX.out; omega) (.slice a0 y.dn.length c0)).setOther (p := ⟨w.heap.size, 1, none⟩) (by simp; have := HX.out; omega) (.slice (some ⟨F, 0, none⟩) y.wt.length c1)).setOther (p := ⟨w.heap.size, 2, none⟩) (by simp; have := HX.out; omega) (.int .i64 y.bk)
      have RWs := ((RW8.out.setOther (p := ⟨w.heap.size, 0, none⟩) (by simp; have := HX.out; omega) (.slice a0 y.dn.length c0)).setOther (p := ⟨w.heap.size, 1, none⟩) (by simp; have := HX.out; omega) (.slice (some ⟨F, 0, none⟩) y.wt.length c1)).setOther (p := ⟨w.heap.size, 2, none⟩) (by simp; have := HX.out; omega) (.int .i64 y.bk)
      have Fs := (block_kept3 (G := w.heap.size) (show F ≠ w.heap.size by have := HX.out; have := HF.out; omega) (.slice a0 y.dn.length c0) (.slice (some ⟨F, 0, none⟩) y.wt.length c1) (.int .i64 y.bk)).trans F8.out
      obtain ⟨u4, hu4⟩ : ∃ V, V = ((u3.setCell ⟨w.heap.size, 0, none⟩ (.slice a0 y.dn.length c0)).setCell ⟨w.heap.size, 1, none⟩ (.slice (some ⟨F, 0, none⟩) y.wt.length c1)).setCell ⟨w.heap.size, 2, none⟩ (.int .i64 y.bk) := ⟨_, rfl⟩
      rw [← hu4] at Fs Xs Qs Rs Ks RDs RWs ⊢
      replace Xs := Lib.hid Xs
      replace Rs := Lib.hid Rs
      replace Ks := Lib.hid Ks
      replace RDs := Lib.hid RDs
      replace RWs := Lib.hid RWs
      have QS := Lib.hid Qs
      replace Fs := Lib.hid Fs
      clear hu4 cR fR lR Qs
      refine hK.out _ _ ⟨cell_of_block Xs.out, cell_of_block Fs.out⟩ (fun hHeld => ?_)
      clear hK K
      try simp only [Act.put, List.setIfInBounds_toArray, List.set]
      clear hHeld
      have cQ := cell_of_block QS.out
      have fQ := unfrozen_of_block QS.out
      have lQ := lt_of_block QS.out
      refine wpAnyH_ready (rs := [14]) (by kernel_rfl) (by simp) ?_
      refine AllReadyH.cons (o := _) (by (simp only [List.getElem?_toArray]; rfl)) (fun K hK => ?_) AllReadyH.nil
      go_simp
      refine hK.out _ _ ⟨cell_of_block (show _ = _ from (block_keptA (by have := HX.out; omega) _ _ _ _ _).trans Xs.out), cell_of_block (show _ = _ from (block_keptA (by have := HX.out; have := HF.out; omega) _ _ _ _ _).trans Fs.out)⟩ (fun hHeld => ?_)
      clear hK K
      try simp only [Act.put, List.setIfInBounds_toArray, List.set]
      refine wpAnyH_done (by kernel_rfl) ?_ _
      clear hHeld
      have cR := cell_of_block Rs.out
      have hr1 : ¬ (w.heap.size = w.heap.size + 1) := by omega
      go_wp2_with fail
      refine bodyPost_ret (v := .tuple #[.agg #[.slice a0 y.dn.length c0, .slice (some ⟨F, 0, none⟩) y.wt.length c1, .int .i64 y.bk], .agg #[.int .i64 r.c, .int .i64 r.n, .int .i64 r.o, .int .i64 r.x, .int .i64 r.y]]) (by simp [results, Try.results34, go_sem, cR, cQ]) rfl ?_
      refine ⟨y, r, a0, some ⟨F, 0, none⟩, c0, c1, rfl, h8, h5, ?_, ?_, below_setA Ks.out (Nat.le_succ _) _ _ _ _ _⟩
      · exact (((((RDs.out.setOther (by simp; have := HX.out; omega) _).setOther (by simp; have := HX.out; omega) _).setOther (by simp; have := HX.out; omega) _).setOther (by simp; have := HX.out; omega) _).setOther (by simp; have := HX.out; omega) _).low (by have := HX.out; omega)
      · exact (((((RWs.out.setOther (by simp; have := HX.out; omega) _).setOther (by simp; have := HX.out; omega) _).setOther (by simp; have := HX.out; omega) _).setOther (by simp; have := HX.out; omega) _).setOther (by simp; have := HX.out; omega) _).low (by have := HX.out; omega)
    · go_wp2_with fail
      refine wp_region_held_drew (S := fun w' => ∀ i, w'.cell? ⟨X, i, none⟩ = (#[.slice a0 y.dn.length c0, .slice a1 y.wt.length c1, .int .i64 y.bk] : Array Value)[i]?) (by kernel_rfl) (cell_of_block (show w4.drew.heap[X]? = _ from X4.out)) (fun hHeld => ?_)
      refine wpAnyH_take (i := 0) (oi := _) (v := ?_) (by (simp only [List.getElem?_toArray]; rfl)) (by kernel_rfl) (by kernel_rfl) (by kernel_rfl) (by exact fun _ _ _ h => h) (Or.inl ⟨by rfl, ?_⟩) (by assumption) ?_
      rotate_left
      · intro wS hSw
        go_simp
        all_goals first | with_reducible rfl | rw [if_neg (by omega)]
      simp only [Act.put, List.setIfInBounds_toArray, List.set]
      refine wpAnyH_take (i := 1) (oi := _) (v := ?_) (by (simp only [List.getElem?_toArray]; rfl)) (by kernel_rfl) (by kernel_rfl) (by kernel_rfl) (by exact fun _ _ _ h => h) (Or.inl ⟨by rfl, ?_⟩) (by assumption) ?_
      rotate_left
      · intro wS hSw
        go_simp
        all_goals first | with_reducible rfl | rw [if_neg (by omega)]
      simp only [Act.put, List.setIfInBounds_toArray, List.set]
      clear hHeld
      obtain ⟨wd, hwd, kwd⟩ : ∃ wd, wd = w4.drew ∧ Below w4.heap.size w4 wd := ⟨_, rfl, Below.drew (Below.refl _ _)⟩
      rw [← hwd]
      clear hwd
      refine wpAnyH_ready (rs := [2]) (by kernel_rfl) (by simp) ?_
      refine AllReadyH.cons (o := _) (by (simp only [List.getElem?_toArray]; rfl)) (fun K hK => ?_) AllReadyH.nil
      go_simp
      refine (l20AnyReq_c wd g _ (D4.out.below (kwd.mono D4.out.lt)) (by omega)).mono ?_
      rintro e u1 ⟨r, rfl, rr, kk⟩
      have hgw := D4.out.lt
      have hB := lt_of_block X4.out
      have Ku := Lib.hid (bel_grown (below_next K4.out kwd) kk (by have := HX.out; omega))
      have Ru := Lib.hid (carry kk (by have := HX.out; omega) (carryN kwd R4.out))
      have Qu := Lib.hid (carry kk (by have := HX.out; omega) (carryN kwd Q4.out))
      have Xu := Lib.hid (carry kk (by have := HX.out; omega) (carryN kwd X4.out))
      have RDu := Lib.hid ((RD4.out.below kwd).kept kk (fun b hb => by have := (RD4.out.blk hb).1; intro e; injection e; omega))
      have RWu := Lib.hid ((RW4.out.below kwd).kept kk (fun b hb => by have := (RW4.out.blk hb).1; intro e; injection e; omega))
      clear kk rr kwd
      refine hK.out _ _ (cell_of_block Xu.out) (fun hHeld => ?_)
      clear hK K
      try simp only [Act.put, List.setIfInBounds_toArray, List.set]
      clear hHeld
      have hne1 : ¬ (w.heap.size = X) := by have := HX.out; omega
      have hne2 : ¬ (w.heap.size + 1 = X) := by have := HX.out; omega
      have hne3 : ¬ (X = w.heap.size) := by have := HX.out; omega
      have hne4 : ¬ (X = w.heap.size + 1) := by have := HX.out; omega
      have cR := cell_of_block Ru.out
      have fR := unfrozen_of_block Ru.out
      have lR := lt_of_block Ru.out
      refine wpAnyH_ready (rs := [3]) (by kernel_rfl) (by simp) ?_
      refine AllReadyH.cons (o := _) (by (simp only [List.getElem?_toArray]; rfl)) (fun K hK => ?_) AllReadyH.nil
      go_simp
      have Xs := (block_kept3 (G := w.heap.size) hne3 (.slice a0 y.dn.length c0) (.slice a1 y.wt.length c1) (.int .i64 y.bk)).trans Xu.out
      have Qs := (block_kept3 (G := w.heap.size) (show w.heap.size + 1 ≠ w.heap.size by omega) (.slice a0 y.dn.length c0) (.slice a1 y.wt.length c1) (.int .i64 y.bk)).trans Qu.out
      have Rs := block_set3 Ru.out (.slice a0 y.dn.length c0) (.slice a1 y.wt.length c1) (.int .i64 y.bk)
      have Ks := below_set3 Ku.out (Nat.le_refl _) (.slice a0 y.dn.length c0) (.slice a1 y.wt.length c1) (.int .i64 y.bk)
      have RDs := ((RDu.out.setOther (p := ⟨w.heap.size, 0, none⟩) (by simp; have := HX.out; omega) (.slice a0 y.dn.length c0)).setOther (p := ⟨w.heap.size, 1, none⟩) (by simp; have := HX.out; omega) (.slice a1 y.wt.length c1)).setOther (p := ⟨w.heap.size, 2, none⟩) (by simp; have := HX.out; omega) (.int .i64 y.bk)
      have RWs := ((RWu.out.setOther (p := ⟨w.heap.size, 0, none⟩) (by simp; have := HX.out; omega) (.slice a0 y.dn.length c0)).setOther (p := ⟨w.heap.size, 1, none⟩) (by simp; have := HX.out; omega) (.slice a1 y.wt.length c1)).setOther (p := ⟨w.heap.size, 2, none⟩) (by simp; have := HX.out; omega) (.int .i64 y.bk)
      obtain ⟨u2, hu2⟩ : ∃ V, V = ((u1.setCell ⟨w.heap.size, 0, none⟩ (.slice a0 y.dn.length c0)).setCell ⟨w.heap.size, 1, none⟩ (.slice a1 y.wt.length c1)).setCell ⟨w.heap.size, 2, none⟩ (.int .i64 y.bk) := ⟨_, rfl⟩
      rw [← hu2] at Xs Qs Rs Ks RDs RWs ⊢
      replace Xs := Lib.hid Xs
      replace Rs := Lib.hid Rs
      replace Ks := Lib.hid Ks
      replace RDs := Lib.hid RDs
      replace RWs := Lib.hid RWs
      have QS := Lib.hid Qs
      clear hu2 cR fR lR Qs
      refine hK.out _ _ (cell_of_block Xs.out) (fun hHeld => ?_)
      clear hK K
      try simp only [Act.put, List.setIfInBounds_toArray, List.set]
      clear hHeld
      have cQ := cell_of_block QS.out
      have fQ := unfrozen_of_block QS.out
      have lQ := lt_of_block QS.out
      refine wpAnyH_ready (rs := [4]) (by kernel_rfl) (by simp) ?_
      refine AllReadyH.cons (o := _) (by (simp only [List.getElem?_toArray]; rfl)) (fun K hK => ?_) AllReadyH.nil
      go_simp
      refine hK.out _ _ (cell_of_block (show _ = _ from (block_keptA (by have := HX.out; omega) _ _ _ _ _).trans Xs.out)) (fun hHeld => ?_)
      clear hK K
      try simp only [Act.put, List.setIfInBounds_toArray, List.set]
      refine wpAnyH_done (by kernel_rfl) ?_ _
      clear hHeld
      have cR := cell_of_block Rs.out
      have hr1 : ¬ (w.heap.size = w.heap.size + 1) := by omega
      go_wp2_with fail
      refine bodyPost_ret (v := .tuple #[.agg #[.slice a0 y.dn.length c0, .slice a1 y.wt.length c1, .int .i64 y.bk], .agg #[.int .i64 r.c, .int .i64 r.n, .int .i64 r.o, .int .i64 r.x, .int .i64 r.y]]) (by simp [results, Try.results34, go_sem, cR, cQ]) rfl ?_
      refine ⟨y, r, a0, a1, c0, c1, rfl, h8, h5, ?_, ?_, below_setA Ks.out (Nat.le_succ _) _ _ _ _ _⟩
      · exact (((((RDs.out.setOther (by simp; have := HX.out; omega) _).setOther (by simp; have := HX.out; omega) _).setOther (by simp; have := HX.out; omega) _).setOther (by simp; have := HX.out; omega) _).setOther (by simp; have := HX.out; omega) _).low (by have := HX.out; omega)
      · exact (((((RWs.out.setOther (by simp; have := HX.out; omega) _).setOther (by simp; have := HX.out; omega) _).setOther (by simp; have := HX.out; omega) _).setOther (by simp; have := HX.out; omega) _).setOther (by simp; have := HX.out; omega) _).low (by have := HX.out; omega)
end Go.Proofs.Ytofedboeggdkaaa

/-! Contract of wpAhead: two that are alike are found alike; appends in guarded operations of a region; no condition. -/
namespace Go.Proofs.Ytofedboeggdkaaa
open Go.RowKit Go.Joins

set_option maxHeartbeats 1000000 in
theorem wpAhead_c (z : Ah) (a0 a1 b0 b1 : Option Addr) (c0 c1 d0 d1 : Nat) (w : World) (ha0 : IsSl w (.slice a0 z.dn.length c0) 5 Rq.cs z.dn) (ha1 : IsSl w (.slice a1 z.wt.length c1) 5 Rq.cs z.wt)
    (hb0 : IsSl w (.slice b0 z.dn.length d0) 5 Rq.cs z.dn) (hb1 : IsSl w (.slice b1 z.wt.length d1) 5 Rq.cs z.wt) :
    Calls Try.prog 26 #[.agg #[.slice a0 z.dn.length c0, .slice a1 z.wt.length c1, .int .i64 z.bk], .agg #[.slice b0 z.dn.length d0, .slice b1 z.wt.length d1, .int .i64 z.bk]] w (Yes w) := by
  have A1 := Lib.hid ha1
  have B1 := Lib.hid hb1
  clear ha1 hb1
  go_enter Try.func26, Try.ntmps26
  go_wp2_with fail
  obtain ⟨W, hW, sW, aW, bW, kW⟩ := blocks2 w (.cells #[.slice a0 z.dn.length c0, .slice a1 z.wt.length c1, .int .i64 z.bk] 30) (.cells #[.slice b0 z.dn.length d0, .slice b1 z.wt.length d1, .int .i64 z.bk] 30)
  rw [← hW]
  clear hW
  refine (wpReqs_c _ _ z.dn _ (ha0.below kW) (hb0.below kW)).mono ?_
  rintro e w1 ⟨rfl, k1⟩
  have K1 := below_next kW k1
  have hcA := cell_of_block (carryB k1 (by omega) aW)
  have hcB := cell_of_block (carryB k1 (by omega) bW)
  go_wp2_with fail
  refine (wpReqs_c _ _ z.wt _ (A1.out.below K1) (B1.out.below K1)).mono ?_
  rintro e w2 ⟨rfl, k2⟩
  have s1 := k1.size
  have hcA2 := cell_of_block (carryB k2 (by omega) (carryB k1 (by omega) aW))
  have hcB2 := cell_of_block (carryB k2 (by omega) (carryB k1 (by omega) bW))
  have K2 := below_next K1 k2
  go_wp2_with fail
  go_ret
  exact ⟨rfl, K2⟩

/-! Steps of a region whose operations are guarded, the guard being met. -/
theorem step_build0G {α : Type} {w : World} {e k bytes : Nat} {R : α → List Value} {P : Program} {ops : Array Oper} {o : Oper} {ac : Act} {K : Act → World → Prop} {Q : Exit → Act → World → Prop} {E : Prop} (hw : Region.wanted o (yielded ops ac.tmps) = true) {t : TypeId}
    (ho : o.op = .buildSlice t 0 #[]) (el : Elt P t e k bytes R) (h : K (ac.put o.dst (.slice (some ⟨w.heap.size, 0, none⟩) 0 0)) (w.alloc (.cells #[] e))) :
    if Region.wanted o (yielded ops ac.tmps) = true then Oper.wp P o ac w K Q else E := by
  rw [if_pos hw]
  obtain ⟨i, z, h2, h3, h4, h5, h6⟩ := el.info
  unfold Oper.wp
  simp [execOp, ho, Result.andThen, Instr.buildSlice, run_underlying el.under, zeroValue, sizeOf, typeInfo, h2, h3, newRow, h4, Instr.fill]
  have h0 : (Array.map (fun _ => (default : Value)) (Array.range 0)) = #[] := by simp
  rw [h0]
  exact h
theorem step_append_eltG {α : Type} {w : World} {B e k cap n : Nat} {a : Option Addr} {R : α → List Value} {zs : List α} {P : Program} {ops : Array Oper} {o : Oper} {ac : Act} {K : Act → World → Prop} {Q : Exit → Act → World → Prop} {E : Prop} (hw : Region.wanted o (yielded ops ac.tmps) = true) (s x : Operand) {t : TypeId}
    (ho : o.op = .call { callee := .builtin .append, args := #[s, x], argTypes := #[t, t] }) {bytes m : Nat} (N : Nat) (el : Elt P t e k bytes R) {ys : List α} {ay : Option Addr} {cy : Nat} (hs : ac.eval s = .slice a n cap) (hx : ac.eval x = .slice ay m cy)
    (hrow : Row w B e a cap k R zs) (hys : RowsAt w ay k R ys) (hn : zs.length = n) (hm : ys.length = m) (hN : n + m = N) (h63 : N ≤ maxLen) (hbytes : N * bytes ≤ 140737488355328) (hB : B ≤ w.heap.size)
    (h : ∀ a' cap' w', Appended w w' B e a a' cap cap' k R (zs ++ ys) → K (ac.put o.dst (.slice a' N cap')) w') :
    if Region.wanted o (yielded ops ac.tmps) = true then Oper.wp P o ac w K Q else E := by
  rw [if_pos hw]
  obtain ⟨a', cap', w', hrun, q⟩ := run_append_elt (ty := o.type) (cy := cy) el hrow hys hn hm hN h63 hbytes hB
  unfold Oper.wp
  simp [execOp, ho, resolve, invoke, builtin, hs, hx, hrun, Result.andThen]
  exact h a' cap' w' q
theorem step_append_newG {α : Type} {w : World} (B : Nat) {e k : Nat} {a : Option Addr} {R : α → List Value} {P : Program} {ops : Array Oper} {o : Oper} {ac : Act} {K : Act → World → Prop} {Q : Exit → Act → World → Prop} {E : Prop} (hw : Region.wanted o (yielded ops ac.tmps) = true) (s x : Operand) {t : TypeId}
    (ho : o.op = .call { callee := .builtin .append, args := #[s, x], argTypes := #[t, t] }) {bytes m : Nat} (el : Elt P t e k bytes R) {ys : List α} {ay : Option Addr} {cy : Nat} (hs : ac.eval s = .slice a 0 0) (hx : ac.eval x = .slice ay m cy)
    (hys : RowsAt w ay k R ys) (hm : ys.length = m) (h63 : m ≤ maxLen) (hbytes : m * bytes ≤ 140737488355328) (hB : B ≤ w.heap.size)
    (h : ∀ a' cap' w', NewRow w w' B e a' cap' k R ys → K (ac.put o.dst (.slice a' m cap')) w') :
    if Region.wanted o (yielded ops ac.tmps) = true then Oper.wp P o ac w K Q else E :=
  step_append_eltG hw s x ho m el hs hx (Row.nil w B e a k R) hys rfl hm (Nat.zero_add m) h63 hbytes hB fun a' c' w' q => h a' c' w' q.new
end Go.Proofs.Ytofedboeggdkaaa
