/- The draw of any game (l20AnyGame): lists that no later draw turns; condition: fewer than 2^40 reads. -/
import Derived.Test.YtilldpoleiippaaDoorDrawGame
set_option linter.unusedSimpArgs false
set_option linter.unusedVariables false
namespace Go.Proofs.YtilldpoleiippaaDoor
open Go.RowKit Go.Joins

/-- From block B on all that there was is as it was. -/
def Since (B : Nat) (w V : World) : Prop := w.heap.size ≤ V.heap.size ∧ ∀ b, B ≤ b → b < w.heap.size → V.heap[b]? = w.heap[b]?
theorem Since.refl (B : Nat) (w : World) : Since B w w := ⟨Nat.le_refl _, fun _ _ _ => rfl⟩
theorem Since.below {B : Nat} {w V U : World} (h : Since B w V) (k : Below V.heap.size V U) : Since B w U := ⟨Nat.le_trans h.1 k.size, fun b h1 h2 => (k.block b (Nat.lt_of_lt_of_le h2 h.1)).trans (h.2 b h1 h2)⟩
theorem Since.grown {B g : Nat} {w V U : World} (h : Since B w V) (k : V.grownBy U (some g)) (hg : g < B) : Since B w U := ⟨Nat.le_trans h.1 k.size, fun b h1 h2 => (k.block b (Nat.lt_of_lt_of_le h2 h.1) (fun e => by injection e; omega)).trans (h.2 b h1 h2)⟩
theorem Since.set {B : Nat} {w V : World} (h : Since B w V) {p : Addr} (hp : p.block < B ∨ w.heap.size ≤ p.block) (v : Value) : Since B w (V.setCell p v) := ⟨by simpa using h.1, fun b h1 h2 => (Below.heap_setCell V p v b (by omega)).trans (h.2 b h1 h2)⟩
/-- A game drawn, ok or not; its lists stay as they are while the reader reads on. -/
def GameAny (w : World) (g Q : Nat) (e : Ending) (w' : World) : Prop :=
  ∃ (z : Gm) (a0 a1 a2 : Option Addr) (c0 c1 c2 : Nat), e = .returned (.agg #[.slice a0 z.es.length c0, .slice a1 z.fl.length c1, .slice a2 z.la.length c2]) ∧ z.es.length ≤ 4 ∧ z.fl.length ≤ 16 ∧ z.la.length ≤ 4 ∧
    (∀ V, Since w.heap.size w' V → IsSl V (.slice a0 z.es.length c0) 5 Rq.cs z.es ∧ IsSl V (.slice a1 z.fl.length c1) 1 intR z.fl ∧ IsSl V (.slice a2 z.la.length c2) 1 intR z.la) ∧ Rdr w' g Q ∧ w.grownBy w' (some g)
theorem Row.since {α : Type} {w V : World} {B e cap k : Nat} {a : Option Addr} {R : α → List Value} {zs : List α} (h : Row w B e a cap k R zs) (s : Since B w V) : Row V B e a cap k R zs :=
  ⟨h.len, h.max, fun hp => by
    obtain ⟨g, cur, h1, h2, h3, h4, h5⟩ := h.own hp
    exact ⟨g, cur, h1, h2, (s.2 g h2 (lt_of_block h3)).trans h3, h4, h5⟩⟩
theorem Own3.since {w V : World} {B : Nat} {a0 a1 a2 : Option Addr} {c0 c1 c2 : Nat} {z : Gm} (h : Own3 w B a0 c0 a1 c1 a2 c2 z) (s : Since B w V) : Own3 V B a0 c0 a1 c1 a2 c2 z := ⟨h.e.since s, h.f.since s, h.l.since s, h.ef, h.el, h.fl⟩
theorem own_any {w : World} {B : Nat} {a0 a1 a2 : Option Addr} {c0 c1 c2 : Nat} {z : Gm} (h : Own3 w B a0 c0 a1 c1 a2 c2 z) :
    ∀ V, Since B w V → IsSl V (.slice a0 z.es.length c0) 5 Rq.cs z.es ∧ IsSl V (.slice a1 z.fl.length c1) 1 intR z.fl ∧ IsSl V (.slice a2 z.la.length c2) 1 intR z.la :=
  fun _ k => ⟨(h.since k).e.sl five_len, (h.since k).f.sl int_len, (h.since k).l.sl int_len⟩
theorem Row.first {α : Type} {w : World} {B e cap k : Nat} {a : Option Addr} {R : α → List Value} {zs : List α} (h : Row w B e a cap k R zs) (hz : 0 < zs.length) : ∃ f cur, a = some ⟨f, 0, none⟩ ∧ B ≤ f ∧ w.heap[f]? = some (.cells cur e (0, 0)) ∧ zs.length * k ≤ cur.size ∧ rowBlk a cap = some f := by
  obtain ⟨f, cur, h1, h2, h3, h4, -⟩ := h.own (Nat.lt_of_lt_of_le hz h.len)
  refine ⟨f, cur, h1, h2, h3, Nat.le_trans (Nat.mul_le_mul_right k h.len) h4, ?_⟩
  have := h.len
  subst h1
  simp [rowBlk]
  omega

set_option maxRecDepth 100000 in
set_option maxHeartbeats 8000000 in
theorem l20AnyGame_c (w : World) (g P : Nat) (hr : Rdr w g P) (hP : P ≤ 1099511590000) :
    Calls Tryd.prog 92 #[.pointer (some ⟨g, 0, none⟩)] w (GameAny w g (P + 310)) := by
  have hlt := hr.lt
  go_enter Tryd.func92, Tryd.ntmps92
  go_wp2_with fail
  obtain ⟨W, hW, sW, rW, kW⟩ := blocks1 w (.cells #[.slice none 0 0, .slice none 0 0, .slice none 0 0] 41)
  rw [← hW]
  clear hW
  refine (l20Game_c W g P (hr.below (kW.mono (by omega))) hP).mono ?_
  rintro e w1 ⟨z, v, rfl, ov, hok, r1, k1⟩
  obtain ⟨a0, c0, a1, c1, a2, c2, rfl, o1⟩ := ov.rows
  have hs1 := k1.size
  have H3 := Lib.hid (gameB_lens hok)
  have R1 := Lib.hid (carry k1 (by omega) rW)
  have G1 := Lib.hid (grown_trans (grown_of_below kW (some g)) k1)
  have RD1 := Lib.hid r1
  have O1 := Lib.hid (o1.low (show w.heap.size ≤ W.heap.size by omega))
  clear ov hok rW k1 r1 o1 hr
  go_wp2_with fail
  obtain ⟨w2, hw2, sw2, xB, k2⟩ := blocks1 w1 (.cells #[.slice a0 z.es.length c0, .slice a1 z.fl.length c1, .slice a2 z.la.length c2] 41)
  rw [← hw2]
  clear hw2
  obtain ⟨X, hX⟩ : ∃ X, X = w1.heap.size := ⟨_, rfl⟩
  rw [← hX] at xB ⊢
  have hXg : X ≠ g := by omega
  have hXR : X ≠ w.heap.size := by omega
  have hXw : w.heap.size < X := by omega
  have hRg : w.heap.size ≠ g := by omega
  refine (pick_c w2 g (P + 300) 14 (RD1.out.below (k2.mono (by omega))) (by omega) (by omega)).mono ?_
  rintro e w3 ⟨p, rfl, hp0, -, -, r3, k3⟩
  have X3 := Lib.hid (carry k3 hXg xB)
  have R3 := Lib.hid (carry k3 hRg (carryN k2 R1.out))
  have O3 := Lib.hid ((O1.out.below k2).grownG k3 hlt)
  have G3 := Lib.hid (grown_trans (grown_trans G1.out (grown_of_below k2 (some g))) k3)
  have RD3 := Lib.hid r3
  have HX := Lib.hid (And.intro hXg (And.intro hXR (And.intro hXw hRg)))
  have HLT := Lib.hid hlt
  clear k2 k3 r3 xB O1 R1 G1 RD1 hs1 sW sw2 hX hXg hXw hRg hXR hlt kW
  have hp : p = 0 ∨ p = 1 ∨ p = 2 ∨ 3 ≤ p := by omega
  rcases hp with rfl | rfl | rfl | hp
  · obtain ⟨f, cur, rfl, hBf, hfb, hcz, hrb⟩ := O3.out.f.first (by have := H3.out.2.1; omega)
    have hXf : X ≠ f := by
      intro h
      have h1 := X3.out
      rw [h, hfb] at h1
      injection h1 with h1
      injection h1 with _ h2
      cases h2
    have hfg : f ≠ g := by have := HLT.out; omega
    have HF := Lib.hid (And.intro hXf hfg)
    have FB := Lib.hid hfb
    have HC := Lib.hid hcz
    clear hXf hfg hfb hBf hcz hrb
    go_wp2_with fail
    refine wp_region_held_drew (S := fun w' => ∀ i, w'.cell? ⟨X, i, none⟩ = (#[.slice a0 z.es.length c0, .slice (some ⟨f, 0, none⟩) z.fl.length c1, .slice a2 z.la.length c2] : Array Value)[i]?) (by kernel_rfl) (cell_of_block (show w3.drew.heap[X]? = _ from X3.out)) (fun hHeld => ?_)
    refine wpAnyH_take (i := 0) (oi := _) (v := ?_) (by (simp only [List.getElem?_toArray]; rfl)) (by kernel_rfl) (by kernel_rfl) (by kernel_rfl) (by exact fun _ _ _ h => h) (Or.inl ⟨by rfl, ?_⟩) (by assumption) ?_
    rotate_left
    · intro wS hSw
      go_simp
      all_goals first | with_reducible rfl | rw [if_neg (by omega)]
    simp only [Act.put, List.setIfInBounds_toArray, List.set]
    refine wpAnyH_take (i := 1) (oi := _) (v := ?_) (by (simp only [List.getElem?_toArray]; rfl)) (by kernel_rfl) (by kernel_rfl) (by kernel_rfl) (by exact fun _ _ _ h => h) (Or.inl ⟨by rfl, ?_⟩) (by assumption) ?_
    rotate_left
    · intro wS hSw
      go_simp
      all_goals first | with_reducible rfl | rw [if_neg (by omega)]
    simp only [Act.put, List.setIfInBounds_toArray, List.set]
    refine wpAnyH_take (i := 2) (oi := _) (v := ?_) (by (simp only [List.getElem?_toArray]; rfl)) (by kernel_rfl) (by kernel_rfl) (by kernel_rfl) (by exact fun _ _ _ h => h) (Or.inl ⟨by rfl, ?_⟩) (by assumption) ?_
    rotate_left
    · intro wS hSw
      go_simp
      all_goals first | with_reducible rfl | rw [if_neg (by omega)]
    simp only [Act.put, List.setIfInBounds_toArray, List.set]
    refine wpAnyH_take (i := 4) (oi := _) (v := ?_) (by (simp only [List.getElem?_toArray]; rfl)) (by kernel_rfl) (by kernel_rfl) (by kernel_rfl) (by exact fun _ _ _ h => h) (Or.inl ⟨by rfl, ?_⟩) (by assumption) ?_
    rotate_left
    · intro wS hSw
      go_simp
      all_goals first | with_reducible rfl | rw [if_neg (by omega)]
    simp only [Act.put, List.setIfInBounds_toArray, List.set]
    clear hHeld
    obtain ⟨wd, hwd, kwd⟩ : ∃ wd, wd = w3.drew ∧ Below w3.heap.size w3 wd := ⟨_, rfl, Below.drew (Below.refl _ _)⟩
    rw [← hwd]
    clear hwd
    have X0 := Lib.hid (carryN kwd X3.out)
    have R0 := Lib.hid (carryN kwd R3.out)
    have F0 := Lib.hid (carryN kwd FB.out)
    have O0 := Lib.hid (O3.out.below kwd)
    have G0 := Lib.hid (grown_trans G3.out (grown_of_below kwd (some g)))
    have RD0 := Lib.hid (RD3.out.below (kwd.mono RD3.out.lt))
    clear kwd X3 R3 O3 G3 RD3 FB
    refine wpAnyH_ready (rs := [3, 5]) (by kernel_rfl) (by simp) ?_
    refine AllReadyH.cons (o := _) (by (simp only [List.getElem?_toArray]; rfl)) (fun K hK => ?_) ?_
    · skip
      go_simp
      refine (pick_c _ g (P + 300 + 1) 16 RD0.out (by omega) (by omega)).mono ?_
      rintro e u1 ⟨q, rfl, hq0, hq1, -, rr, kk⟩
      replace hq1 := hq1 (by omega)
      obtain ⟨j, rfl⟩ := Int.eq_ofNat_of_zero_le hq0
      have X1 := Lib.hid (carry kk HX.out.1 X0.out)
      have R1 := Lib.hid (carry kk HX.out.2.2.2 R0.out)
      have F1 := Lib.hid (carry kk HF.out.2 F0.out)
      have O1 := Lib.hid (O0.out.grownG kk HLT.out)
      have G1 := Lib.hid (grown_trans G0.out kk)
      have RD1 := Lib.hid rr
      clear kk rr X0 R0 F0 O0 G0 RD0
      have HJ := Lib.hid (show j < z.fl.length by have := H3.out.2.1; omega)
      clear hq0 hq1
      refine hK.out _ _ (cell_of_block X1.out) (fun hHeld => ?_)
      clear hK K hHeld
      try simp only [Act.put, List.setIfInBounds_toArray, List.set]
      refine wpAnyH_ready (rs := [5]) (by kernel_rfl) (by simp) ?_
      refine AllReadyH.cons (o := _) (by (simp only [List.getElem?_toArray]; rfl)) (fun K hK => ?_) AllReadyH.nil
      go_simp
      obtain ⟨u2, hu, su, nB, ku⟩ := blocks1 u1 (.cells #[.int .i64 (-1), .int .i64 3, .int .i64 20] 3)
      rw [← hu]
      clear hu su
      have hNg : u1.heap.size ≠ g := by have := RD1.out.lt; omega
      obtain ⟨N, hN⟩ : ∃ N, N = u1.heap.size := ⟨_, rfl⟩
      rw [← hN] at nB hNg ⊢
      clear hN
      have X2 := Lib.hid (carryN ku X1.out)
      have R2 := Lib.hid (carryN ku R1.out)
      have F2 := Lib.hid (carryN ku F1.out)
      have O2 := Lib.hid (O1.out.below ku)
      have G2 := Lib.hid (grown_trans G1.out (grown_of_below ku (some g)))
      have RD2 := Lib.hid (RD1.out.below (ku.mono RD1.out.lt))
      have NB := Lib.hid nB
      have HNG := Lib.hid hNg
      clear ku nB hNg X1 R1 F1 O1 G1 RD1
      refine hK.out _ _ (cell_of_block X2.out) (fun hHeld => ?_)
      clear hK K hHeld
      try simp only [Act.put, List.setIfInBounds_toArray, List.set]
      refine wpAnyH_ready (rs := [6]) (by kernel_rfl) (by simp) ?_
      refine AllReadyH.cons (o := _) (by (simp only [List.getElem?_toArray]; rfl)) (fun K hK => ?_) AllReadyH.nil
      go_simp
      refine (one_c _ g (P + 300 + 1 + 1) N 3 _ [-1, 3, 20] _ RD2.out (by omega) HNG.out NB.out rfl rfl (by decide) (by decide)).mono ?_
      rintro e u3 ⟨x, -, rfl, rr, kk⟩
      have X3 := Lib.hid (carry kk HX.out.1 X2.out)
      have R3 := Lib.hid (carry kk HX.out.2.2.2 R2.out)
      have F3 := Lib.hid (carry kk HF.out.2 F2.out)
      have O3 := Lib.hid (O2.out.grownG kk HLT.out)
      have G3 := Lib.hid (grown_trans G2.out kk)
      have RD3 := Lib.hid rr
      replace NB := Lib.hid (carry kk HNG.out NB.out)
      clear kk rr X2 R2 F2 O2 G2 RD2
      refine hK.out _ _ (cell_of_block X3.out) (fun hHeld => ?_)
      clear hK K hHeld
      try simp only [Act.put, List.setIfInBounds_toArray, List.set]
      have hj0 : (0 : Int) ≤ (j : Int) := by omega
      have hj1 : (j : Int) < (z.fl.length : Int) := by have := HJ.out; omega
      have hHeld := cell_of_block X3.out
      refine wpAnyH_take (i := 7) (oi := _) (v := ?_) (by (simp only [List.getElem?_toArray]; rfl)) (by kernel_rfl) (by kernel_rfl) (by kernel_rfl) (by exact fun _ _ _ h => h) (Or.inl ⟨by rfl, ?_⟩) (by assumption) ?_
      rotate_left
      · intro wS hSw
        go_simp
        all_goals first | with_reducible rfl | rw [if_neg (by omega)]
      simp only [Act.put, List.setIfInBounds_toArray, List.set]
      obtain ⟨yF, cF⟩ : ∃ y : Int, u3.cell? ⟨f, j, none⟩ = some (.int .i64 y) := by
        obtain ⟨b, oo, e1, hl, hc⟩ := (O3.out.f.rows int_len) j HJ.out
        injection e1 with e1
        injection e1 with e2 e3
        have h := hc 0 (by decide)
        rw [← e2, ← e3, Nat.mul_one, Nat.add_zero, Nat.zero_add] at h
        exact ⟨_, h⟩
      have fF := unfrozen_of_block F3.out
      have lF := lt_of_block F3.out
      clear hHeld
      refine wpAnyH_ready (rs := [8]) (by kernel_rfl) (by simp) ?_
      refine AllReadyH.cons (o := _) (by (simp only [List.getElem?_toArray]; rfl)) (fun K hK => ?_) AllReadyH.nil
      go_simp
      have hfw : w.heap.size ≤ f := by obtain ⟨f', _, e1, h2, _⟩ := O3.out.f.first (by have := HJ.out; omega); injection e1 with e1; injection e1 with e1; omega
      have x4 := (Below.heap_setCell u3 ⟨f, j, none⟩ (.int .i64 x) X HF.out.1).trans X3.out
      have r4 := (Below.heap_setCell u3 ⟨f, j, none⟩ (.int .i64 x) w.heap.size (fun h => by have h1 := R3.out; rw [h, F3.out] at h1; injection h1 with h1; injection h1 with _ h2; cases h2)).trans R3.out
      have o4 := O3.out.cellF HJ.out x
      have d4 := (RD3.out.mono (show P + 300 + 1 + 1 + 1 ≤ P + 310 by omega)).below ((Below.refl (g + 1) u3).setCell (show g + 1 ≤ (⟨f, j, none⟩ : Addr).block by have := HLT.out; simp only; omega) (.int .i64 x))
      have g4 := grown_setCell G3.out (p := ⟨f, j, none⟩) (.inr hfw) (.int .i64 x)
      obtain ⟨V, hV⟩ : ∃ V, V = u3.setCell ⟨f, j, none⟩ (.int .i64 x) := ⟨_, rfl⟩
      rw [← hV] at x4 r4 o4 d4 g4 ⊢
      have X4 := Lib.hid x4
      have R4 := Lib.hid r4
      have O4 := Lib.hid o4
      have D4 := Lib.hid d4
      have G4 := Lib.hid g4
      clear hV x4 r4 o4 d4 g4 hfw
      refine hK.out _ _ (cell_of_block X4.out) (fun hHeld => ?_)
      clear hK K hHeld
      try simp only [Act.put, List.setIfInBounds_toArray, List.set]
      refine wpAnyH_done (by kernel_rfl) ?_ _
      clear cF fF lF hj0 hj1
      have cX := cell_of_block X4.out
      have lX := lt_of_block X4.out
      have cR := cell_of_block R4.out
      have fR := unfrozen_of_block R4.out
      have lR := lt_of_block R4.out
      have hne := HX.out.2.1
      have hne' : ¬ (w.heap.size = X) := fun h => hne h.symm
      go_wp2_with fail
      refine bodyPost_ret (v := .agg #[.slice a0 z.es.length c0, .slice (some ⟨f, 0, none⟩) z.fl.length c1, .slice a2 z.la.length c2]) (by simp [results, Tryd.results92, go_sem, cR]) rfl ?_
      exact ⟨⟨z.es, z.fl.set j x, z.la⟩, a0, _, a2, c0, c1, c2, by simp only [List.length_set], H3.out.1, by simp only [List.length_set]; have := H3.out.2.1; omega, by have := H3.out.2.2; simp only; omega, own_any (O4.out.set3 R4.out _ _ _), D4.out.below (below_set3 (Below.refl _ _) HLT.out _ _ _), grown_set3 G4.out (Nat.le_refl _) _ _ _⟩
    refine AllReadyH.cons (o := _) (by (simp only [List.getElem?_toArray]; rfl)) (fun K hK => ?_) ?_
    · skip
      go_simp
      obtain ⟨u1, hu, su, nB, ku⟩ := blocks1 wd (.cells #[.int .i64 (-1), .int .i64 3, .int .i64 20] 3)
      rw [← hu]
      clear hu su
      have hNg : wd.heap.size ≠ g := by have := RD0.out.lt; omega
      obtain ⟨N, hN⟩ : ∃ N, N = wd.heap.size := ⟨_, rfl⟩
      rw [← hN] at nB hNg ⊢
      clear hN
      have X1 := Lib.hid (carryN ku X0.out)
      have R1 := Lib.hid (carryN ku R0.out)
      have F1 := Lib.hid (carryN ku F0.out)
      have O1 := Lib.hid (O0.out.below ku)
      have G1 := Lib.hid (grown_trans G0.out (grown_of_below ku (some g)))
      have RD1 := Lib.hid (RD0.out.below (ku.mono RD0.out.lt))
      have NB := Lib.hid nB
      have HNG := Lib.hid hNg
      clear ku nB hNg X0 R0 F0 O0 G0 RD0
      refine hK.out _ _ (cell_of_block X1.out) (fun hHeld => ?_)
      clear hK K hHeld
      try simp only [Act.put, List.setIfInBounds_toArray, List.set]
      refine wpAnyH_ready (rs := [3]) (by kernel_rfl) (by simp) ?_
      refine AllReadyH.cons (o := _) (by (simp only [List.getElem?_toArray]; rfl)) (fun K hK => ?_) AllReadyH.nil
      go_simp
      refine (pick_c _ g (P + 300 + 1) 16 RD1.out (by omega) (by omega)).mono ?_
      rintro e u2 ⟨q, rfl, hq0, hq1, -, rr, kk⟩
      replace hq1 := hq1 (by omega)
      obtain ⟨j, rfl⟩ := Int.eq_ofNat_of_zero_le hq0
      have X2 := Lib.hid (carry kk HX.out.1 X1.out)
      have R2 := Lib.hid (carry kk HX.out.2.2.2 R1.out)
      have F2 := Lib.hid (carry kk HF.out.2 F1.out)
      have O2 := Lib.hid (O1.out.grownG kk HLT.out)
      have G2 := Lib.hid (grown_trans G1.out kk)
      have RD2 := Lib.hid rr
      replace NB := Lib.hid (carry kk HNG.out NB.out)
      clear kk rr X1 R1 F1 O1 G1 RD1
      have HJ := Lib.hid (show j < z.fl.length by have := H3.out.2.1; omega)
      clear hq0 hq1
      refine hK.out _ _ (cell_of_block X2.out) (fun hHeld => ?_)
      clear hK K hHeld
      try simp only [Act.put, List.setIfInBounds_toArray, List.set]
      refine wpAnyH_ready (rs := [6]) (by kernel_rfl) (by simp) ?_
      refine AllReadyH.cons (o := _) (by (simp only [List.getElem?_toArray]; rfl)) (fun K hK => ?_) AllReadyH.nil
      go_simp
      refine (one_c _ g (P + 300 + 1 + 1) N 3 _ [-1, 3, 20] _ RD2.out (by omega) HNG.out NB.out rfl rfl (by decide) (by decide)).mono ?_
      rintro e u3 ⟨x, -, rfl, rr, kk⟩
      have X3 := Lib.hid (carry kk HX.out.1 X2.out)
      have R3 := Lib.hid (carry kk HX.out.2.2.2 R2.out)
      have F3 := Lib.hid (carry kk HF.out.2 F2.out)
      have O3 := Lib.hid (O2.out.grownG kk HLT.out)
      have G3 := Lib.hid (grown_trans G2.out kk)
      have RD3 := Lib.hid rr
      replace NB := Lib.hid (carry kk HNG.out NB.out)
      clear kk rr X2 R2 F2 O2 G2 RD2
      refine hK.out _ _ (cell_of_block X3.out) (fun hHeld => ?_)
      clear hK K hHeld
      try simp only [Act.put, List.setIfInBounds_toArray, List.set]
      have hj0 : (0 : Int) ≤ (j : Int) := by omega
      have hj1 : (j : Int) < (z.fl.length : Int) := by have := HJ.out; omega
      have hHeld := cell_of_block X3.out
      refine wpAnyH_take (i := 7) (oi := _) (v := ?_) (by (simp only [List.getElem?_toArray]; rfl)) (by kernel_rfl) (by kernel_rfl) (by kernel_rfl) (by exact fun _ _ _ h => h) (Or.inl ⟨by rfl, ?_⟩) (by assumption) ?_
      rotate_left
      · intro wS hSw
        go_simp
        all_goals first | with_reducible rfl | rw [if_neg (by omega)]
      simp only [Act.put, List.setIfInBounds_toArray, List.set]
      obtain ⟨yF, cF⟩ : ∃ y : Int, u3.cell? ⟨f, j, none⟩ = some (.int .i64 y) := by
        obtain ⟨b, oo, e1, hl, hc⟩ := (O3.out.f.rows int_len) j HJ.out
        injection e1 with e1
        injection e1 with e2 e3
        have h := hc 0 (by decide)
        rw [← e2, ← e3, Nat.mul_one, Nat.add_zero, Nat.zero_add] at h
        exact ⟨_, h⟩
      have fF := unfrozen_of_block F3.out
      have lF := lt_of_block F3.out
      clear hHeld
      refine wpAnyH_ready (rs := [8]) (by kernel_rfl) (by simp) ?_
      refine AllReadyH.cons (o := _) (by (simp only [List.getElem?_toArray]; rfl)) (fun K hK => ?_) AllReadyH.nil
      go_simp
      have hfw : w.heap.size ≤ f := by obtain ⟨f', _, e1, h2, _⟩ := O3.out.f.first (by have := HJ.out; omega); injection e1 with e1; injection e1 with e1; omega
      have x4 := (Below.heap_setCell u3 ⟨f, j, none⟩ (.int .i64 x) X HF.out.1).trans X3.out
      have r4 := (Below.heap_setCell u3 ⟨f, j, none⟩ (.int .i64 x) w.heap.size (fun h => by have h1 := R3.out; rw [h, F3.out] at h1; injection h1 with h1; injection h1 with _ h2; cases h2)).trans R3.out
      have o4 := O3.out.cellF HJ.out x
      have d4 := (RD3.out.mono (show P + 300 + 1 + 1 + 1 ≤ P + 310 by omega)).below ((Below.refl (g + 1) u3).setCell (show g + 1 ≤ (⟨f, j, none⟩ : Addr).block by have := HLT.out; simp only; omega) (.int .i64 x))
      have g4 := grown_setCell G3.out (p := ⟨f, j, none⟩) (.inr hfw) (.int .i64 x)
      obtain ⟨V, hV⟩ : ∃ V, V = u3.setCell ⟨f, j, none⟩ (.int .i64 x) := ⟨_, rfl⟩
      rw [← hV] at x4 r4 o4 d4 g4 ⊢
      have X4 := Lib.hid x4
      have R4 := Lib.hid r4
      have O4 := Lib.hid o4
      have D4 := Lib.hid d4
      have G4 := Lib.hid g4
      clear hV x4 r4 o4 d4 g4 hfw
      refine hK.out _ _ (cell_of_block X4.out) (fun hHeld => ?_)
      clear hK K hHeld
      try simp only [Act.put, List.setIfInBounds_toArray, List.set]
      refine wpAnyH_done (by kernel_rfl) ?_ _
      clear cF fF lF hj0 hj1
      have cX := cell_of_block X4.out
      have lX := lt_of_block X4.out
      have cR := cell_of_block R4.out
      have fR := unfrozen_of_block R4.out
      have lR := lt_of_block R4.out
      have hne := HX.out.2.1
      have hne' : ¬ (w.heap.size = X) := fun h => hne h.symm
      go_wp2_with fail
      refine bodyPost_ret (v := .agg #[.slice a0 z.es.length c0, .slice (some ⟨f, 0, none⟩) z.fl.length c1, .slice a2 z.la.length c2]) (by simp [results, Tryd.results92, go_sem, cR]) rfl ?_
      exact ⟨⟨z.es, z.fl.set j x, z.la⟩, a0, _, a2, c0, c1, c2, by simp only [List.length_set], H3.out.1, by simp only [List.length_set]; have := H3.out.2.1; omega, by have := H3.out.2.2; simp only; omega, own_any (O4.out.set3 R4.out _ _ _), D4.out.below (below_set3 (Below.refl _ _) HLT.out _ _ _), grown_set3 G4.out (Nat.le_refl _) _ _ _⟩
    exact AllReadyH.nil
  · obtain ⟨f, cur, rfl, hBf, hfb, hcz, hrb⟩ := O3.out.l.first (by have := H3.out.2.2; omega)
    have hc2 : 4 ≤ c2 := by have := O3.out.l.len; have := H3.out.2.2; omega
    have hcm : c2 ≤ 9223372036854775807 := by have := O3.out.l.max; unfold maxLen at this; exact this
    have hc2' : ¬ (c2 = 1) := by omega
    have hc2i : (4 : Int) ≤ (c2 : Int) := by omega
    have hT := O3.out.l.rows int_len
    have x3 := X3.out
    rw [H3.out.2.2] at x3
    have HX3 := Lib.hid x3
    have cX := cell_of_block x3
    have lX := lt_of_block x3
    have fX := unfrozen_of_block x3
    clear x3 hfb hcz hrb hT
    go_upto_region 10 with fail
    have hwX := HX.out.2.2.1
    have x4 : (w3.setCell ⟨X, 2, none⟩ (.slice (some ⟨f, 1, none⟩) 3 (c2 - 1))).heap[X]? = some (.cells #[.slice a0 z.es.length c0, .slice a1 z.fl.length c1, .slice (some ⟨f, 1, none⟩) 3 (c2 - 1)] 41 (0, 0)) := by exact block_setCell (i := 2) HX3.out (.slice (some ⟨f, 1, none⟩) 3 (c2 - 1))
    have r4 := (Below.heap_setCell w3 ⟨X, 2, none⟩ (.slice (some ⟨f, 1, none⟩) 3 (c2 - 1)) w.heap.size (fun h => HX.out.2.1 h.symm)).trans R3.out
    have o4 := O3.out.setType HX3.out (by decide) (by decide) 2 (.slice (some ⟨f, 1, none⟩) 3 (c2 - 1))
    have d4 := (RD3.out.mono (show P + 300 + 1 ≤ P + 310 by omega)).below ((Below.refl (g + 1) w3).setCell (show g + 1 ≤ (⟨X, 2, none⟩ : Addr).block by have := HLT.out; simp only; omega) (.slice (some ⟨f, 1, none⟩) 3 (c2 - 1)))
    have g4 := grown_setCell G3.out (p := ⟨X, 2, none⟩) (.inr (Nat.le_of_lt hwX)) (.slice (some ⟨f, 1, none⟩) 3 (c2 - 1))
    obtain ⟨V, hV⟩ : ∃ V, V = w3.setCell ⟨X, 2, none⟩ (.slice (some ⟨f, 1, none⟩) 3 (c2 - 1)) := ⟨_, rfl⟩
    rw [← hV] at x4 r4 o4 d4 g4 ⊢
    have X4 := Lib.hid x4
    have R4 := Lib.hid r4
    have O4 := Lib.hid o4
    have D4 := Lib.hid d4
    have G4 := Lib.hid g4
    have HC2 := Lib.hid (And.intro hc2 (And.intro hcm hc2'))
    have H31 := Lib.hid (show (z.la.drop 1).length = 3 by rw [List.length_drop]; have := H3.out.2.2; omega)
    clear hV x4 r4 o4 d4 g4 cX lX fX hwX hc2 hcm hc2' hc2i
    have cX := cell_of_block X4.out
    have lX := lt_of_block X4.out
    have cR := cell_of_block R4.out
    have fR := unfrozen_of_block R4.out
    have lR := lt_of_block R4.out
    have hne := HX.out.2.1
    have hne' : ¬ (w.heap.size = X) := fun h => hne h.symm
    go_wp2_with fail
    refine bodyPost_ret (v := .agg #[.slice a0 z.es.length c0, .slice a1 z.fl.length c1, .slice (some ⟨f, 1, none⟩) 3 (c2 - 1)]) (by simp [results, Tryd.results92, go_sem, cR]) rfl ?_
    refine ⟨⟨z.es, z.fl, z.la.drop 1⟩, a0, a1, some ⟨f, 1, none⟩, c0, c1, c2 - 1, by simp only; rw [H31.out], H3.out.1, by have := H3.out.2.1; simp only; omega, by simp only; rw [H31.out]; decide, ?_, D4.out.below (below_set3 (Below.refl _ _) HLT.out _ _ _), grown_set3 G4.out (Nat.le_refl _) _ _ _⟩
    intro V' k
    have O5 := (O4.out.set3 R4.out _ _ _).since k
    have hT := (O5.l.rows int_len).tailG 1 c2 (fun h => absurd h HC2.out.2.2)
    rw [if_neg HC2.out.2.2] at hT
    exact ⟨O5.e.sl five_len, O5.f.sl int_len, some ⟨f, 1, none⟩, c2 - 1, rfl, by have h1 := H31.out; have h2 := HC2.out.1; simp only; omega, by have h2 := HC2.out.2.1; unfold maxLen; omega, hT⟩
  · by_cases h0 : (0 : Int) < (z.es.length : Int)
    · have h0n : 0 < z.es.length := by omega
      have HE0 := Lib.hid h0n
      obtain ⟨f, cur, rfl, hBf, hfb, hcz, hrb⟩ := O3.out.e.first h0n
      have hXf : X ≠ f := by
        intro h
        have h1 := X3.out
        rw [h, hfb] at h1
        injection h1 with h1
        injection h1 with _ h2
        cases h2
      have hfg : f ≠ g := by have := HLT.out; omega
      have HF := Lib.hid (And.intro hXf hfg)
      have HFW := Lib.hid hBf
      have FB := Lib.hid hfb
      clear hXf hfg hfb hBf hcz hrb
      have cX := cell_of_block X3.out
      have lX := lt_of_block X3.out
      go_wp2_with fail
      clear cX lX
      refine wp_region_held_drew (S := fun w' => ∀ i, w'.cell? ⟨X, i, none⟩ = (#[.slice (some ⟨f, 0, none⟩) z.es.length c0, .slice a1 z.fl.length c1, .slice a2 z.la.length c2] : Array Value)[i]?) (by kernel_rfl) (cell_of_block (show w3.drew.heap[X]? = _ from X3.out)) (fun hHeld => ?_)
      refine wpAnyH_take (i := 0) (oi := _) (v := ?_) (by (simp only [List.getElem?_toArray]; rfl)) (by kernel_rfl) (by kernel_rfl) (by kernel_rfl) (by exact fun _ _ _ h => h) (Or.inl ⟨by rfl, ?_⟩) (by assumption) ?_
      rotate_left
      · intro wS hSw
        go_simp
        all_goals first | with_reducible rfl | rw [if_neg (by omega)]
      simp only [Act.put, List.setIfInBounds_toArray, List.set]
      refine wpAnyH_take (i := 1) (oi := _) (v := ?_) (by (simp only [List.getElem?_toArray]; rfl)) (by kernel_rfl) (by kernel_rfl) (by kernel_rfl) (by exact fun _ _ _ h => h) (Or.inl ⟨by rfl, ?_⟩) (by assumption) ?_
      rotate_left
      · intro wS hSw
        go_simp
        all_goals first | with_reducible rfl | rw [if_neg (by omega)]
      simp only [Act.put, List.setIfInBounds_toArray, List.set]
      refine wpAnyH_take (i := 2) (oi := _) (v := ?_) (by (simp only [List.getElem?_toArray]; rfl)) (by kernel_rfl) (by kernel_rfl) (by kernel_rfl) (by exact fun _ _ _ h => h) (Or.inl ⟨by rfl, ?_⟩) (by assumption) ?_
      rotate_left
      · intro wS hSw
        go_simp
        all_goals first | with_reducible rfl | rw [if_neg (by omega)]
      simp only [Act.put, List.setIfInBounds_toArray, List.set]
      clear hHeld
      obtain ⟨wd, hwd, kwd⟩ : ∃ wd, wd = w3.drew ∧ Below w3.heap.size w3 wd := ⟨_, rfl, Below.drew (Below.refl _ _)⟩
      rw [← hwd]
      clear hwd
      have X0 := Lib.hid (carryN kwd X3.out)
      have R0 := Lib.hid (carryN kwd R3.out)
      have F0 := Lib.hid (carryN kwd FB.out)
      have O0 := Lib.hid (O3.out.below kwd)
      have G0 := Lib.hid (grown_trans G3.out (grown_of_below kwd (some g)))
      have RD0 := Lib.hid (RD3.out.below (kwd.mono RD3.out.lt))
      clear kwd X3 R3 O3 G3 RD3 FB
      refine wpAnyH_ready (rs := [3]) (by kernel_rfl) (by simp) ?_
      refine AllReadyH.cons (o := _) (by (simp only [List.getElem?_toArray]; rfl)) (fun K hK => ?_) AllReadyH.nil
      go_simp
      obtain ⟨u1, hu, su, nB, ku⟩ := blocks1 wd (.cells #[.int .i64 (-1), .int .i64 4, .int .i64 0] 3)
      rw [← hu]
      clear hu su
      have hNg : wd.heap.size ≠ g := by have := RD0.out.lt; omega
      obtain ⟨N, hN⟩ : ∃ N, N = wd.heap.size := ⟨_, rfl⟩
      rw [← hN] at nB hNg ⊢
      clear hN
      have X1 := Lib.hid (carryN ku X0.out)
      have R1 := Lib.hid (carryN ku R0.out)
      have F1 := Lib.hid (carryN ku F0.out)
      have O1 := Lib.hid (O0.out.below ku)
      have G1 := Lib.hid (grown_trans G0.out (grown_of_below ku (some g)))
      have RD1 := Lib.hid (RD0.out.below (ku.mono RD0.out.lt))
      have NB := Lib.hid nB
      have HNG := Lib.hid hNg
      clear ku nB hNg X0 R0 F0 O0 G0 RD0
      refine hK.out _ _ (cell_of_block X1.out) (fun hHeld => ?_)
      clear hK K hHeld
      try simp only [Act.put, List.setIfInBounds_toArray, List.set]
      refine wpAnyH_ready (rs := [4]) (by kernel_rfl) (by simp) ?_
      refine AllReadyH.cons (o := _) (by (simp only [List.getElem?_toArray]; rfl)) (fun K hK => ?_) AllReadyH.nil
      go_simp
      refine (one_c _ g (P + 300 + 1) N 3 _ [-1, 4, 0] _ RD1.out (by omega) HNG.out NB.out rfl rfl (by decide) (by decide)).mono ?_
      rintro e u2 ⟨x, -, rfl, rr, kk⟩
      have X2 := Lib.hid (carry kk HX.out.1 X1.out)
      have R2 := Lib.hid (carry kk HX.out.2.2.2 R1.out)
      have F2 := Lib.hid (carry kk HF.out.2 F1.out)
      have O2 := Lib.hid (O1.out.grownG kk HLT.out)
      have G2 := Lib.hid (grown_trans G1.out kk)
      have RD2 := Lib.hid rr
      replace NB := Lib.hid (carry kk HNG.out NB.out)
      clear kk rr X1 R1 F1 O1 G1 RD1
      refine hK.out _ _ (cell_of_block X2.out) (fun hHeld => ?_)
      clear hK K hHeld
      try simp only [Act.put, List.setIfInBounds_toArray, List.set]
      have hHeld := cell_of_block X2.out
      refine wpAnyH_take (i := 5) (oi := _) (v := ?_) (by (simp only [List.getElem?_toArray]; rfl)) (by kernel_rfl) (by kernel_rfl) (by kernel_rfl) (by exact fun _ _ _ h => h) (Or.inl ⟨by rfl, ?_⟩) (by assumption) ?_
      rotate_left
      · intro wS hSw
        go_simp
        all_goals first | with_reducible rfl | rw [if_neg (by omega)]
      simp only [Act.put, List.setIfInBounds_toArray, List.set]
      refine wpAnyH_take (i := 6) (oi := _) (v := ?_) (by (simp only [List.getElem?_toArray]; rfl)) (by kernel_rfl) (by kernel_rfl) (by kernel_rfl) (by exact fun _ _ _ h => h) (Or.inl ⟨by rfl, ?_⟩) (by assumption) ?_
      rotate_left
      · intro wS hSw
        go_simp
        all_goals first | with_reducible rfl | rw [if_neg (by omega)]
      simp only [Act.put, List.setIfInBounds_toArray, List.set]
      obtain ⟨yF, cF⟩ : ∃ y : Int, u2.cell? ⟨f, 1, none⟩ = some (.int .i64 y) := by
        obtain ⟨b, oo, e1, hl, hc⟩ := (O2.out.e.rows five_len) 0 HE0.out
        injection e1 with e1
        injection e1 with e2 e3
        have h := hc 1 (by decide)
        rw [← e2, ← e3] at h
        exact ⟨_, h⟩
      have fF := unfrozen_of_block F2.out
      have lF := lt_of_block F2.out
      clear hHeld
      refine wpAnyH_ready (rs := [7]) (by kernel_rfl) (by simp) ?_
      refine AllReadyH.cons (o := _) (by (simp only [List.getElem?_toArray]; rfl)) (fun K hK => ?_) AllReadyH.nil
      go_simp
      have x4 := (Below.heap_setCell u2 ⟨f, 1, none⟩ (.int .i64 x) X HF.out.1).trans X2.out
      have r4 := (Below.heap_setCell u2 ⟨f, 1, none⟩ (.int .i64 x) w.heap.size (fun h => by have h1 := R2.out; rw [h, F2.out] at h1; injection h1 with h1; injection h1 with _ h2; cases h2)).trans R2.out
      have o4 := (show Own3 (u2.setCell ⟨f, 1, none⟩ (.int .i64 x)) _ _ _ _ _ _ _ _ from O2.out.cellE HE0.out (show 1 < 5 by decide) ⟨z.es[0].c, x, z.es[0].o, z.es[0].x, z.es[0].y⟩ (.int .i64 x) rfl (fun j' h1 h2 => by rcases j' with _ | _ | _ | _ | _ | j' <;> first | rfl | omega))
      have d4 := (RD2.out.mono (show P + 300 + 1 + 1 ≤ P + 310 by omega)).below ((Below.refl (g + 1) u2).setCell (show g + 1 ≤ (⟨f, 1, none⟩ : Addr).block by have := HLT.out; have := HFW.out; simp only; omega) (.int .i64 x))
      have g4 := grown_setCell G2.out (p := ⟨f, 1, none⟩) (.inr HFW.out) (.int .i64 x)
      obtain ⟨V, hV⟩ : ∃ V, V = u2.setCell ⟨f, 1, none⟩ (.int .i64 x) := ⟨_, rfl⟩
      rw [← hV] at x4 r4 o4 d4 g4 ⊢
      have X4 := Lib.hid x4
      have R4 := Lib.hid r4
      have O4 := Lib.hid o4
      have D4 := Lib.hid d4
      have G4 := Lib.hid g4
      clear hV x4 r4 o4 d4 g4
      refine hK.out _ _ (cell_of_block X4.out) (fun hHeld => ?_)
      clear hK K hHeld
      try simp only [Act.put, List.setIfInBounds_toArray, List.set]
      refine wpAnyH_done (by kernel_rfl) ?_ _
      clear cF fF lF
      have cX := cell_of_block X4.out
      have lX := lt_of_block X4.out
      have cR := cell_of_block R4.out
      have fR := unfrozen_of_block R4.out
      have lR := lt_of_block R4.out
      have hne := HX.out.2.1
      have hne' : ¬ (w.heap.size = X) := fun h => hne h.symm
      go_wp2_with fail
      refine bodyPost_ret (v := .agg #[.slice (some ⟨f, 0, none⟩) z.es.length c0, .slice a1 z.fl.length c1, .slice a2 z.la.length c2]) (by simp [results, Tryd.results92, go_sem, cR]) rfl ?_
      exact ⟨⟨z.es.set 0 ⟨z.es[0].c, x, z.es[0].o, z.es[0].x, z.es[0].y⟩, z.fl, z.la⟩, _, a1, a2, c0, c1, c2, by simp only [List.length_set], by simp only [List.length_set]; exact H3.out.1, by have := H3.out.2.1; simp only; omega, by have := H3.out.2.2; simp only; omega, own_any (O4.out.set3 R4.out _ _ _), D4.out.below (below_set3 (Below.refl _ _) HLT.out _ _ _), grown_set3 G4.out (Nat.le_refl _) _ _ _⟩
    · have cX := cell_of_block X3.out
      have lX := lt_of_block X3.out
      have cR := cell_of_block R3.out
      have fR := unfrozen_of_block R3.out
      have lR := lt_of_block R3.out
      have hne := HX.out.2.1
      have hne' : ¬ (w.heap.size = X) := fun h => hne h.symm
      go_wp2_with fail
      refine bodyPost_ret (v := .agg #[.slice a0 z.es.length c0, .slice a1 z.fl.length c1, .slice a2 z.la.length c2]) (by simp [results, Tryd.results92, go_sem, cR]) rfl ?_
      exact ⟨z, a0, a1, a2, c0, c1, c2, rfl, H3.out.1, by have := H3.out.2.1; omega, by have := H3.out.2.2; omega, own_any (O3.out.set3 R3.out _ _ _), (RD3.out.mono (by omega)).below (below_set3 (Below.refl _ _) HLT.out _ _ _), grown_set3 G3.out (Nat.le_refl _) _ _ _⟩
  · have n0 : (p == 0) = false := by simp; omega
    have n1 : (p == 1) = false := by simp; omega
    have n2 : (p == 2) = false := by simp; omega
    have cX := cell_of_block X3.out
    have lX := lt_of_block X3.out
    have cR := cell_of_block R3.out
    have fR := unfrozen_of_block R3.out
    have lR := lt_of_block R3.out
    have hne := HX.out.2.1
    have hne' : ¬ (w.heap.size = X) := fun h => hne h.symm
    go_wp2_with fail
    refine bodyPost_ret (v := .agg #[.slice a0 z.es.length c0, .slice a1 z.fl.length c1, .slice a2 z.la.length c2]) (by simp [results, Tryd.results92, go_sem, cR]) rfl ?_
    exact ⟨z, a0, a1, a2, c0, c1, c2, rfl, H3.out.1, by have := H3.out.2.1; omega, by have := H3.out.2.2; omega, own_any (O3.out.set3 R3.out _ _ _), (RD3.out.mono (by omega)).below (below_set3 (Below.refl _ _) HLT.out _ _ _), grown_set3 G3.out (Nat.le_refl _) _ _ _⟩
end Go.Proofs.YtilldpoleiippaaDoor
