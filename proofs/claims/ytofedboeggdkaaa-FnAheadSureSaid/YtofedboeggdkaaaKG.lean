/- The draw of a game (l20Game): an ok game in rows of its own; condition: fewer than 2^40 reads. | The draw of any game (l20AnyGame): lists that no later draw turns; condition: fewer than 2^40 reads. | The draw of a game and an ask (DrawGameDo); no condition but a code of bytes. | GameDo, the reference's and the program's, as a law's walk asks them; condition: small sizes. | What GameDo's number tells, and GameDo once more, as plain laws; no program; no condition. -/
import Derived.Test.YtofedboeggdkaaaKF
import Derived.Test.YtofedboeggdkaaaKE
import Derived.Test.YtofedboeggdkaaaKA
import Derived.Test.YtofedboeggdkaaaKD
import Derived.Test.YtofedboeggdkaaaKC
import Derived.Test.YtofedboeggdkaaaKB
set_option linter.unusedSimpArgs false
set_option linter.unusedVariables false
/-! The draw of a game (l20Game): an ok game in rows of its own; condition: fewer than 2^40 reads. -/
namespace Go.Proofs.Ytofedboeggdkaaa
open Go.RowKit Go.Joins

theorem Own3.grownG {w w' : World} {B g : Nat} {a0 a1 a2 : Option Addr} {c0 c1 c2 : Nat} {z : Gm} (h : Own3 w B a0 c0 a1 c1 a2 c2 z) (k : w.grownBy w' (some g)) (hg : g < B) : Own3 w' B a0 c0 a1 c1 a2 c2 z :=
  ⟨h.e.kept k (fun b hb e => by have := (h.e.blk hb).1; injection e; omega), h.f.kept k (fun b hb e => by have := (h.f.blk hb).1; injection e; omega), h.l.kept k (fun b hb e => by have := (h.l.blk hb).1; injection e; omega), h.ef, h.el, h.fl⟩
theorem grown_set3 {a w : World} {g G : Nat} (h : a.grownBy w (some g)) (hG : a.heap.size ≤ G) (x y u : Value) : a.grownBy (((w.setCell ⟨G, 0, none⟩ x).setCell ⟨G, 1, none⟩ y).setCell ⟨G, 2, none⟩ u) (some g) :=
  grown_setCell (grown_setCell (grown_setCell h (.inr hG) _) (.inr hG) _) (.inr hG) _
theorem gameB_lens {z : Gm} (h : gameB z = true) : z.es.length ≤ 4 ∧ z.fl.length = 16 ∧ z.la.length = 4 := by
  rw [gameB_iff] at h
  exact ⟨ents_le4 h.1, h.2.2.2.1, h.2.2.2.2.1⟩
/-- A game of its own, drawn. -/
def GameGot (w : World) (g Q : Nat) (e : Ending) (w' : World) : Prop :=
  ∃ (z : Gm) (v : Value), e = .returned v ∧ OwnGm w' w.heap.size v z ∧ gameB z = true ∧ Rdr w' g Q ∧ w.grownBy w' (some g)

set_option maxRecDepth 100000 in
set_option maxHeartbeats 4000000 in
theorem l20Game_c (w : World) (g P : Nat) (hr : Rdr w g P) (hP : P ≤ 1099511590000) :
    Calls Try.prog 120 #[.pointer (some ⟨g, 0, none⟩)] w (GameGot w g (P + 300)) := by
  have hlt := hr.lt
  go_enter Try.func120, Try.ntmps120
  go_wp2_with fail
  obtain ⟨W, hW, sW, rW, nW, kW⟩ := blocks2 w (.cells #[.slice none 0 0, .slice none 0 0, .slice none 0 0] 46) (.cells #[.int .i64 0, .int .i64 6, .int .i64 20, .int .i64 40] 3)
  rw [← hW]
  clear hW
  refine (one_c W g P (w.heap.size + 1) 4 _ [0, 6, 20, 40] _ (hr.below (kW.mono (by omega))) (by omega) (by omega) nW rfl rfl (by decide) (by decide)).mono ?_
  rintro e w1 ⟨v1, hv1, rfl, r1, k1⟩
  have hv : ∃ m : Nat, v1 = (m : Int) ∧ m ≤ 40 := by
    simp only [List.mem_cons, List.not_mem_nil, or_false] at hv1
    rcases hv1 with rfl | rfl | rfl | rfl
    · exact ⟨0, rfl, by decide⟩
    · exact ⟨6, rfl, by decide⟩
    · exact ⟨20, rfl, by decide⟩
    · exact ⟨40, rfl, by decide⟩
  obtain ⟨m, rfl, hm⟩ := hv
  have hs1 := k1.size
  have R1 := Lib.hid (carry k1 (by omega) rW)
  have G1 : w.grownBy w1 (some g) := grown_trans (grown_of_below kW _) k1
  have RD1 := Lib.hid r1
  clear hv1 rW nW k1 r1 hr
  go_wp2_with fail
  refine (l20Reqs_c w1 g (P + 1) m RD1.out (by omega) (by omega)).mono ?_
  rintro e w2 ⟨rs, a', cap', rfl, hlen, hgood, hrow, r2, k2⟩
  have hs2 := k2.size
  have R2 := Lib.hid (carry k2 (by omega) R1.out)
  have G2 := Lib.hid (grown_trans G1 k2)
  have RD2 := Lib.hid (r2.mono (show P + 1 + 1 + 7 * m ≤ P + 300 by omega))
  have SL := Lib.hid (hrow.sl five_len)
  have HG := Lib.hid hgood
  have hlt2 : g + 1 ≤ w2.heap.size := by omega
  have hw2 : w.heap.size ≤ w2.heap.size := by omega
  clear k2 r2 hrow hgood hlen G1 R1 RD1 hs1 hs2 sW
  go_wp2_with fail
  refine (l2Fold_c _ rs w2 SL.out HG.out).mono ?_
  rintro e w3 ⟨v, rfl, ov, k3⟩
  obtain ⟨e0, f0, e1, f1, e2, f2, rfl, o3⟩ := ov.rows
  have HOK := Lib.hid (foldG_new_ok HG.out)
  obtain ⟨y, hy⟩ : ∃ y, y = foldG newG rs := ⟨_, rfl⟩
  rw [← hy] at o3 HOK ⊢
  have hlen := (gameB_lens HOK.out).2
  have h4 := (gameB_lens HOK.out).1
  have hb0 : y.es.length ≤ 16777216 := Nat.le_trans h4 (by decide)
  have hb1 : y.fl.length ≤ 16777216 := by rw [hlen.1]; decide
  have hb2 : y.la.length ≤ 16777216 := by rw [hlen.2]; decide
  have CC := Lib.hid (fun V (o : Own3 V w2.heap.size e0 f0 e1 f1 e2 f2 y) => l2Copy_c y e0 e1 e2 y.es.length y.fl.length y.la.length f0 f1 f2 V (o.e.sl five_len) (o.f.sl int_len) (o.l.sl int_len) hb0 hb1 hb2)
  have O3 := Lib.hid o3
  have K3 := Lib.hid k3
  have R3 := Lib.hid (carryN k3 R2.out)
  clear ov hy hb0 hb1 hb2 h4 hlen o3 k3 R2
  go_wp2_with fail
  refine (CC.out w3 O3.out).mono ?_
  rintro e w4 ⟨v4, rfl, ov4, k4⟩
  obtain ⟨g0, j0, g1, j1, g2, j2, rfl, o4⟩ := ov4.rows
  have K4 := Lib.hid (below_next K3.out k4)
  have R4 := carryN k4 R3.out
  have R4' := Lib.hid R4
  have O4 := Lib.hid (o4.low (Nat.le_trans hw2 K3.out.size))
  have cR := cell_of_block R4
  have fR := unfrozen_of_block R4
  have lR := lt_of_block R4
  clear R4 k4 ov4 o4
  go_wp2_with fail
  refine bodyPost_ret (v := .agg #[.slice g0 y.es.length j0, .slice g1 y.fl.length j1, .slice g2 y.la.length j2]) (by simp [results, Try.results120, go_sem, cR]) rfl ?_
  refine ⟨y, _, rfl, (O4.out.set3 R4'.out _ _ _).gm, HOK.out, RD2.out.below (below_set3 (K4.out.mono hlt2) (by omega) _ _ _), grown_set3 (grown_trans G2.out (grown_of_below K4.out _)) (Nat.le_refl _) _ _ _⟩
end Go.Proofs.Ytofedboeggdkaaa

/-! The draw of any game (l20AnyGame): lists that no later draw turns; condition: fewer than 2^40 reads. -/
namespace Go.Proofs.Ytofedboeggdkaaa
open Go.RowKit Go.Joins

/-- From block B on all that there was is as it was. -/
def Since (B : Nat) (w V : World) : Prop := w.heap.size ≤ V.heap.size ∧ ∀ b, B ≤ b → b < w.heap.size → V.heap[b]? = w.heap[b]?
theorem Since.refl (B : Nat) (w : World) : Since B w w := ⟨Nat.le_refl _, fun _ _ _ => rfl⟩
theorem Since.below {B : Nat} {w V U : World} (h : Since B w V) (k : Below V.heap.size V U) : Since B w U := ⟨Nat.le_trans h.1 k.size, fun b h1 h2 => (k.block b (Nat.lt_of_lt_of_le h2 h.1)).trans (h.2 b h1 h2)⟩
theorem Since.grown {B g : Nat} {w V U : World} (h : Since B w V) (k : V.grownBy U (some g)) (hg : g < B) : Since B w U := ⟨Nat.le_trans h.1 k.size, fun b h1 h2 => (k.block b (Nat.lt_of_lt_of_le h2 h.1) (fun e => by injection e; omega)).trans (h.2 b h1 h2)⟩
theorem Since.set {B : Nat} {w V : World} (h : Since B w V) {p : Addr} (hp : p.block < B ∨ w.heap.size ≤ p.block) (v : Value) : Since B w (V.setCell p v) := ⟨by simpa using h.1, fun b h1 h2 => (Below.heap_setCell V p v b (by omega)).trans (h.2 b h1 h2)⟩
/-- A game drawn, ok or not; its lists stay as they are while the reader reads on. -/
def GameAny (w : World) (g Q : Nat) (e : Ending) (w' : World) : Prop :=
  ∃ (z : Gm) (a0 a1 a2 : Option Addr) (c0 c1 c2 : Nat), e = .returned (.agg #[.slice a0 z.es.length c0, .slice a1 z.fl.length c1, .slice a2 z.la.length c2]) ∧ z.es.length ≤ 4 ∧ z.fl.length ≤ 16 ∧ z.la.length ≤ 4 ∧
    (∀ V, Since w.heap.size w' V → IsSl V (.slice a0 z.es.length c0) 5 Rq.cs z.es ∧ IsSl V (.slice a1 z.fl.length c1) 1 intR z.fl ∧ IsSl V (.slice a2 z.la.length c2) 1 intR z.la) ∧ Rdr w' g Q ∧ w.grownBy w' (some g)
theorem Row.since {α : Type} {w V : World} {B e cap k : Nat} {a : Option Addr} {R : α → List Value} {zs : List α} (h : Row w B e a cap k R zs) (s : Since B w V) : Row V B e a cap k R zs :=
  ⟨h.len, h.max, fun hp => by
    obtain ⟨g, cur, h1, h2, h3, h4, h5⟩ := h.own hp
    exact ⟨g, cur, h1, h2, (s.2 g h2 (lt_of_block h3)).trans h3, h4, h5⟩⟩
theorem Own3.since {w V : World} {B : Nat} {a0 a1 a2 : Option Addr} {c0 c1 c2 : Nat} {z : Gm} (h : Own3 w B a0 c0 a1 c1 a2 c2 z) (s : Since B w V) : Own3 V B a0 c0 a1 c1 a2 c2 z := ⟨h.e.since s, h.f.since s, h.l.since s, h.ef, h.el, h.fl⟩
theorem own_any {w : World} {B : Nat} {a0 a1 a2 : Option Addr} {c0 c1 c2 : Nat} {z : Gm} (h : Own3 w B a0 c0 a1 c1 a2 c2 z) :
    ∀ V, Since B w V → IsSl V (.slice a0 z.es.length c0) 5 Rq.cs z.es ∧ IsSl V (.slice a1 z.fl.length c1) 1 intR z.fl ∧ IsSl V (.slice a2 z.la.length c2) 1 intR z.la :=
  fun _ k => ⟨(h.since k).e.sl five_len, (h.since k).f.sl int_len, (h.since k).l.sl int_len⟩
theorem Row.first {α : Type} {w : World} {B e cap k : Nat} {a : Option Addr} {R : α → List Value} {zs : List α} (h : Row w B e a cap k R zs) (hz : 0 < zs.length) : ∃ f cur, a = some ⟨f, 0, none⟩ ∧ B ≤ f ∧ w.heap[f]? = some (.cells cur e (0, 0)) ∧ zs.length * k ≤ cur.size ∧ rowBlk a cap = some f := by
  obtain ⟨f, cur, h1, h2, h3, h4, -⟩ := h.own (Nat.lt_of_lt_of_le hz h.len)
  refine ⟨f, cur, h1, h2, h3, Nat.le_trans (Nat.mul_le_mul_right k h.len) h4, ?_⟩
  have := h.len
  subst h1
  simp [rowBlk]
  omega

set_option maxRecDepth 100000 in
set_option maxHeartbeats 8000000 in
theorem l20AnyGame_c (w : World) (g P : Nat) (hr : Rdr w g P) (hP : P ≤ 1099511590000) :
    Calls Try.prog 94 #[.pointer (some ⟨g, 0, none⟩)] w (GameAny w g (P + 310)) := by
  have hlt := hr.lt
  go_enter Try.func94, Try.ntmps94
  go_wp2_with fail
  obtain ⟨W, hW, sW, rW, kW⟩ := blocks1 w (.cells #[.slice none 0 0, .slice none 0 0, .slice none 0 0] 46)
  rw [← hW]
  clear hW
  refine (l20Game_c W g P (hr.below (kW.mono (by omega))) hP).mono ?_
  rintro e w1 ⟨z, v, rfl, ov, hok, r1, k1⟩
  obtain ⟨a0, c0, a1, c1, a2, c2, rfl, o1⟩ := ov.rows
  have hs1 := k1.size
  have H3 := Lib.hid (gameB_lens hok)
  have R1 := Lib.hid (carry k1 (by omega) rW)
  have G1 := Lib.hid (grown_trans (grown_of_below kW (some g)) k1)
  have RD1 := Lib.hid r1
  have O1 := Lib.hid (o1.low (show w.heap.size ≤ W.heap.size by omega))
  clear ov hok rW k1 r1 o1 hr
  go_wp2_with fail
  obtain ⟨w2, hw2, sw2, xB, k2⟩ := blocks1 w1 (.cells #[.slice a0 z.es.length c0, .slice a1 z.fl.length c1, .slice a2 z.la.length c2] 46)
  rw [← hw2]
  clear hw2
  obtain ⟨X, hX⟩ : ∃ X, X = w1.heap.size := ⟨_, rfl⟩
  rw [← hX] at xB ⊢
  have hXg : X ≠ g := by omega
  have hXR : X ≠ w.heap.size := by omega
  have hXw : w.heap.size < X := by omega
  have hRg : w.heap.size ≠ g := by omega
  refine (pick_c w2 g (P + 300) 14 (RD1.out.below (k2.mono (by omega))) (by omega) (by omega)).mono ?_
  rintro e w3 ⟨p, rfl, hp0, -, -, r3, k3⟩
  have X3 := Lib.hid (carry k3 hXg xB)
  have R3 := Lib.hid (carry k3 hRg (carryN k2 R1.out))
  have O3 := Lib.hid ((O1.out.below k2).grownG k3 hlt)
  have G3 := Lib.hid (grown_trans (grown_trans G1.out (grown_of_below k2 (some g))) k3)
  have RD3 := Lib.hid r3
  have HX := Lib.hid (And.intro hXg (And.intro hXR (And.intro hXw hRg)))
  have HLT := Lib.hid hlt
  clear k2 k3 r3 xB O1 R1 G1 RD1 hs1 sW sw2 hX hXg hXw hRg hXR hlt kW
  have hp : p = 0 ∨ p = 1 ∨ p = 2 ∨ 3 ≤ p := by omega
  rcases hp with rfl | rfl | rfl | hp
  · obtain ⟨f, cur, rfl, hBf, hfb, hcz, hrb⟩ := O3.out.f.first (by have := H3.out.2.1; omega)
    have hXf : X ≠ f := by
      intro h
      have h1 := X3.out
      rw [h, hfb] at h1
      injection h1 with h1
      injection h1 with _ h2
      cases h2
    have hfg : f ≠ g := by have := HLT.out; omega
    have HF := Lib.hid (And.intro hXf hfg)
    have FB := Lib.hid hfb
    have HC := Lib.hid hcz
    clear hXf hfg hfb hBf hcz hrb
    go_wp2_with fail
    refine wp_region_held_drew (S := fun w' => ∀ i, w'.cell? ⟨X, i, none⟩ = (#[.slice a0 z.es.length c0, .slice (some ⟨f, 0, none⟩) z.fl.length c1, .slice a2 z.la.length c2] : Array Value)[i]?) (by kernel_rfl) (cell_of_block (show w3.drew.heap[X]? = _ from X3.out)) (fun hHeld => ?_)
    refine wpAnyH_take (i := 0) (oi := _) (v := ?_) (by (simp only [List.getElem?_toArray]; rfl)) (by kernel_rfl) (by kernel_rfl) (by kernel_rfl) (by exact fun _ _ _ h => h) (Or.inl ⟨by rfl, ?_⟩) (by assumption) ?_
    rotate_left
    · intro wS hSw
      go_simp
      all_goals first | with_reducible rfl | rw [if_neg (by omega)]
    simp only [Act.put, List.setIfInBounds_toArray, List.set]
    refine wpAnyH_take (i := 1) (oi := _) (v := ?_) (by (simp only [List.getElem?_toArray]; rfl)) (by kernel_rfl) (by kernel_rfl) (by kernel_rfl) (by exact fun _ _ _ h => h) (Or.inl ⟨by rfl, ?_⟩) (by assumption) ?_
    rotate_left
    · intro wS hSw
      go_simp
      all_goals first | with_reducible rfl | rw [if_neg (by omega)]
    simp only [Act.put, List.setIfInBounds_toArray, List.set]
    refine wpAnyH_take (i := 2) (oi := _) (v := ?_) (by (simp only [List.getElem?_toArray]; rfl)) (by kernel_rfl) (by kernel_rfl) (by kernel_rfl) (by exact fun _ _ _ h => h) (Or.inl ⟨by rfl, ?_⟩) (by assumption) ?_
    rotate_left
    · intro wS hSw
      go_simp
      all_goals first | with_reducible rfl | rw [if_neg (by omega)]
    simp only [Act.put, List.setIfInBounds_toArray, List.set]
    refine wpAnyH_take (i := 4) (oi := _) (v := ?_) (by (simp only [List.getElem?_toArray]; rfl)) (by kernel_rfl) (by kernel_rfl) (by kernel_rfl) (by exact fun _ _ _ h => h) (Or.inl ⟨by rfl, ?_⟩) (by assumption) ?_
    rotate_left
    · intro wS hSw
      go_simp
      all_goals first | with_reducible rfl | rw [if_neg (by omega)]
    simp only [Act.put, List.setIfInBounds_toArray, List.set]
    clear hHeld
    obtain ⟨wd, hwd, kwd⟩ : ∃ wd, wd = w3.drew ∧ Below w3.heap.size w3 wd := ⟨_, rfl, Below.drew (Below.refl _ _)⟩
    rw [← hwd]
    clear hwd
    have X0 := Lib.hid (carryN kwd X3.out)
    have R0 := Lib.hid (carryN kwd R3.out)
    have F0 := Lib.hid (carryN kwd FB.out)
    have O0 := Lib.hid (O3.out.below kwd)
    have G0 := Lib.hid (grown_trans G3.out (grown_of_below kwd (some g)))
    have RD0 := Lib.hid (RD3.out.below (kwd.mono RD3.out.lt))
    clear kwd X3 R3 O3 G3 RD3 FB
    refine wpAnyH_ready (rs := [3, 5]) (by kernel_rfl) (by simp) ?_
    refine AllReadyH.cons (o := _) (by (simp only [List.getElem?_toArray]; rfl)) (fun K hK => ?_) ?_
    · skip
      go_simp
      refine (pick_c _ g (P + 300 + 1) 16 RD0.out (by omega) (by omega)).mono ?_
      rintro e u1 ⟨q, rfl, hq0, hq1, -, rr, kk⟩
      replace hq1 := hq1 (by omega)
      obtain ⟨j, rfl⟩ := Int.eq_ofNat_of_zero_le hq0
      have X1 := Lib.hid (carry kk HX.out.1 X0.out)
      have R1 := Lib.hid (carry kk HX.out.2.2.2 R0.out)
      have F1 := Lib.hid (carry kk HF.out.2 F0.out)
      have O1 := Lib.hid (O0.out.grownG kk HLT.out)
      have G1 := Lib.hid (grown_trans G0.out kk)
      have RD1 := Lib.hid rr
      clear kk rr X0 R0 F0 O0 G0 RD0
      have HJ := Lib.hid (show j < z.fl.length by have := H3.out.2.1; omega)
      clear hq0 hq1
      refine hK.out _ _ (cell_of_block X1.out) (fun hHeld => ?_)
      clear hK K hHeld
      try simp only [Act.put, List.setIfInBounds_toArray, List.set]
      refine wpAnyH_ready (rs := [5]) (by kernel_rfl) (by simp) ?_
      refine AllReadyH.cons (o := _) (by (simp only [List.getElem?_toArray]; rfl)) (fun K hK => ?_) AllReadyH.nil
      go_simp
      obtain ⟨u2, hu, su, nB, ku⟩ := blocks1 u1 (.cells #[.int .i64 (-1), .int .i64 3, .int .i64 20] 3)
      rw [← hu]
      clear hu su
      have hNg : u1.heap.size ≠ g := by have := RD1.out.lt; omega
      obtain ⟨N, hN⟩ : ∃ N, N = u1.heap.size := ⟨_, rfl⟩
      rw [← hN] at nB hNg ⊢
      clear hN
      have X2 := Lib.hid (carryN ku X1.out)
      have R2 := Lib.hid (carryN ku R1.out)
      have F2 := Lib.hid (carryN ku F1.out)
      have O2 := Lib.hid (O1.out.below ku)
      have G2 := Lib.hid (grown_trans G1.out (grown_of_below ku (some g)))
      have RD2 := Lib.hid (RD1.out.below (ku.mono RD1.out.lt))
      have NB := Lib.hid nB
      have HNG := Lib.hid hNg
      clear ku nB hNg X1 R1 F1 O1 G1 RD1
      refine hK.out _ _ (cell_of_block X2.out) (fun hHeld => ?_)
      clear hK K hHeld
      try simp only [Act.put, List.setIfInBounds_toArray, List.set]
      refine wpAnyH_ready (rs := [6]) (by kernel_rfl) (by simp) ?_
      refine AllReadyH.cons (o := _) (by (simp only [List.getElem?_toArray]; rfl)) (fun K hK => ?_) AllReadyH.nil
      go_simp
      refine (one_c _ g (P + 300 + 1 + 1) N 3 _ [-1, 3, 20] _ RD2.out (by omega) HNG.out NB.out rfl rfl (by decide) (by decide)).mono ?_
      rintro e u3 ⟨x, -, rfl, rr, kk⟩
      have X3 := Lib.hid (carry kk HX.out.1 X2.out)
      have R3 := Lib.hid (carry kk HX.out.2.2.2 R2.out)
      have F3 := Lib.hid (carry kk HF.out.2 F2.out)
      have O3 := Lib.hid (O2.out.grownG kk HLT.out)
      have G3 := Lib.hid (grown_trans G2.out kk)
      have RD3 := Lib.hid rr
      replace NB := Lib.hid (carry kk HNG.out NB.out)
      clear kk rr X2 R2 F2 O2 G2 RD2
      refine hK.out _ _ (cell_of_block X3.out) (fun hHeld => ?_)
      clear hK K hHeld
      try simp only [Act.put, List.setIfInBounds_toArray, List.set]
      have hj0 : (0 : Int) ≤ (j : Int) := by omega
      have hj1 : (j : Int) < (z.fl.length : Int) := by have := HJ.out; omega
      have hHeld := cell_of_block X3.out
      refine wpAnyH_take (i := 7) (oi := _) (v := ?_) (by (simp only [List.getElem?_toArray]; rfl)) (by kernel_rfl) (by kernel_rfl) (by kernel_rfl) (by exact fun _ _ _ h => h) (Or.inl ⟨by rfl, ?_⟩) (by assumption) ?_
      rotate_left
      · intro wS hSw
        go_simp
        all_goals first | with_reducible rfl | rw [if_neg (by omega)]
      simp only [Act.put, List.setIfInBounds_toArray, List.set]
      obtain ⟨yF, cF⟩ : ∃ y : Int, u3.cell? ⟨f, j, none⟩ = some (.int .i64 y) := by
        obtain ⟨b, oo, e1, hl, hc⟩ := (O3.out.f.rows int_len) j HJ.out
        injection e1 with e1
        injection e1 with e2 e3
        have h := hc 0 (by decide)
        rw [← e2, ← e3, Nat.mul_one, Nat.add_zero, Nat.zero_add] at h
        exact ⟨_, h⟩
      have fF := unfrozen_of_block F3.out
      have lF := lt_of_block F3.out
      clear hHeld
      refine wpAnyH_ready (rs := [8]) (by kernel_rfl) (by simp) ?_
      refine AllReadyH.cons (o := _) (by (simp only [List.getElem?_toArray]; rfl)) (fun K hK => ?_) AllReadyH.nil
      go_simp
      have hfw : w.heap.size ≤ f := by obtain ⟨f', _, e1, h2, _⟩ := O3.out.f.first (by have := HJ.out; omega); injection e1 with e1; injection e1 with e1; omega
      have x4 := (Below.heap_setCell u3 ⟨f, j, none⟩ (.int .i64 x) X HF.out.1).trans X3.out
      have r4 := (Below.heap_setCell u3 ⟨f, j, none⟩ (.int .i64 x) w.heap.size (fun h => by have h1 := R3.out; rw [h, F3.out] at h1; injection h1 with h1; injection h1 with _ h2; cases h2)).trans R3.out
      have o4 := O3.out.cellF HJ.out x
      have d4 := (RD3.out.mono (show P + 300 + 1 + 1 + 1 ≤ P + 310 by omega)).below ((Below.refl (g + 1) u3).setCell (show g + 1 ≤ (⟨f, j, none⟩ : Addr).block by have := HLT.out; simp only; omega) (.int .i64 x))
      have g4 := grown_setCell G3.out (p := ⟨f, j, none⟩) (.inr hfw) (.int .i64 x)
      obtain ⟨V, hV⟩ : ∃ V, V = u3.setCell ⟨f, j, none⟩ (.int .i64 x) := ⟨_, rfl⟩
      rw [← hV] at x4 r4 o4 d4 g4 ⊢
      have X4 := Lib.hid x4
      have R4 := Lib.hid r4
      have O4 := Lib.hid o4
      have D4 := Lib.hid d4
      have G4 := Lib.hid g4
      clear hV x4 r4 o4 d4 g4 hfw
      refine hK.out _ _ (cell_of_block X4.out) (fun hHeld => ?_)
      clear hK K hHeld
      try simp only [Act.put, List.setIfInBounds_toArray, List.set]
      refine wpAnyH_done (by kernel_rfl) ?_ _
      clear cF fF lF hj0 hj1
      have cX := cell_of_block X4.out
      have lX := lt_of_block X4.out
      have cR := cell_of_block R4.out
      have fR := unfrozen_of_block R4.out
      have lR := lt_of_block R4.out
      have hne := HX.out.2.1
      have hne' : ¬ (w.heap.size = X) := fun h => hne h.symm
      go_wp2_with fail
      refine bodyPost_ret (v := .agg #[.slice a0 z.es.length c0, .slice (some ⟨f, 0, none⟩) z.fl.length c1, .slice a2 z.la.length c2]) (by simp [results, Try.results94, go_sem, cR]) rfl ?_
      exact ⟨⟨z.es, z.fl.set j x, z.la⟩, a0, _, a2, c0, c1, c2, by simp only [List.length_set], H3.out.1, by simp only [List.length_set]; have := H3.out.2.1; omega, by have := H3.out.2.2; simp only; omega, own_any (O4.out.set3 R4.out _ _ _), D4.out.below (below_set3 (Below.refl _ _) HLT.out _ _ _), grown_set3 G4.out (Nat.le_refl _) _ _ _⟩
    refine AllReadyH.cons (o := _) (by (simp only [List.getElem?_toArray]; rfl)) (fun K hK => ?_) ?_
    · skip
      go_simp
      obtain ⟨u1, hu, su, nB, ku⟩ := blocks1 wd (.cells #[.int .i64 (-1), .int .i64 3, .int .i64 20] 3)
      rw [← hu]
      clear hu su
      have hNg : wd.heap.size ≠ g := by have := RD0.out.lt; omega
      obtain ⟨N, hN⟩ : ∃ N, N = wd.heap.size := ⟨_, rfl⟩
      rw [← hN] at nB hNg ⊢
      clear hN
      have X1 := Lib.hid (carryN ku X0.out)
      have R1 := Lib.hid (carryN ku R0.out)
      have F1 := Lib.hid (carryN ku F0.out)
      have O1 := Lib.hid (O0.out.below ku)
      have G1 := Lib.hid (grown_trans G0.out (grown_of_below ku (some g)))
      have RD1 := Lib.hid (RD0.out.below (ku.mono RD0.out.lt))
      have NB := Lib.hid nB
      have HNG := Lib.hid hNg
      clear ku nB hNg X0 R0 F0 O0 G0 RD0
      refine hK.out _ _ (cell_of_block X1.out) (fun hHeld => ?_)
      clear hK K hHeld
      try simp only [Act.put, List.setIfInBounds_toArray, List.set]
      refine wpAnyH_ready (rs := [3]) (by kernel_rfl) (by simp) ?_
      refine AllReadyH.cons (o := _) (by (simp only [List.getElem?_toArray]; rfl)) (fun K hK => ?_) AllReadyH.nil
      go_simp
      refine (pick_c _ g (P + 300 + 1) 16 RD1.out (by omega) (by omega)).mono ?_
      rintro e u2 ⟨q, rfl, hq0, hq1, -, rr, kk⟩
      replace hq1 := hq1 (by omega)
      obtain ⟨j, rfl⟩ := Int.eq_ofNat_of_zero_le hq0
      have X2 := Lib.hid (carry kk HX.out.1 X1.out)
      have R2 := Lib.hid (carry kk HX.out.2.2.2 R1.out)
      have F2 := Lib.hid (carry kk HF.out.2 F1.out)
      have O2 := Lib.hid (O1.out.grownG kk HLT.out)
      have G2 := Lib.hid (grown_trans G1.out kk)
      have RD2 := Lib.hid rr
      replace NB := Lib.hid (carry kk HNG.out NB.out)
      clear kk rr X1 R1 F1 O1 G1 RD1
      have HJ := Lib.hid (show j < z.fl.length by have := H3.out.2.1; omega)
      clear hq0 hq1
      refine hK.out _ _ (cell_of_block X2.out) (fun hHeld => ?_)
      clear hK K hHeld
      try simp only [Act.put, List.setIfInBounds_toArray, List.set]
      refine wpAnyH_ready (rs := [6]) (by kernel_rfl) (by simp) ?_
      refine AllReadyH.cons (o := _) (by (simp only [List.getElem?_toArray]; rfl)) (fun K hK => ?_) AllReadyH.nil
      go_simp
      refine (one_c _ g (P + 300 + 1 + 1) N 3 _ [-1, 3, 20] _ RD2.out (by omega) HNG.out NB.out rfl rfl (by decide) (by decide)).mono ?_
      rintro e u3 ⟨x, -, rfl, rr, kk⟩
      have X3 := Lib.hid (carry kk HX.out.1 X2.out)
      have R3 := Lib.hid (carry kk HX.out.2.2.2 R2.out)
      have F3 := Lib.hid (carry kk HF.out.2 F2.out)
      have O3 := Lib.hid (O2.out.grownG kk HLT.out)
      have G3 := Lib.hid (grown_trans G2.out kk)
      have RD3 := Lib.hid rr
      replace NB := Lib.hid (carry kk HNG.out NB.out)
      clear kk rr X2 R2 F2 O2 G2 RD2
      refine hK.out _ _ (cell_of_block X3.out) (fun hHeld => ?_)
      clear hK K hHeld
      try simp only [Act.put, List.setIfInBounds_toArray, List.set]
      have hj0 : (0 : Int) ≤ (j : Int) := by omega
      have hj1 : (j : Int) < (z.fl.length : Int) := by have := HJ.out; omega
      have hHeld := cell_of_block X3.out
      refine wpAnyH_take (i := 7) (oi := _) (v := ?_) (by (simp only [List.getElem?_toArray]; rfl)) (by kernel_rfl) (by kernel_rfl) (by kernel_rfl) (by exact fun _ _ _ h => h) (Or.inl ⟨by rfl, ?_⟩) (by assumption) ?_
      rotate_left
      · intro wS hSw
        go_simp
        all_goals first | with_reducible rfl | rw [if_neg (by omega)]
      simp only [Act.put, List.setIfInBounds_toArray, List.set]
      obtain ⟨yF, cF⟩ : ∃ y : Int, u3.cell? ⟨f, j, none⟩ = some (.int .i64 y) := by
        obtain ⟨b, oo, e1, hl, hc⟩ := (O3.out.f.rows int_len) j HJ.out
        injection e1 with e1
        injection e1 with e2 e3
        have h := hc 0 (by decide)
        rw [← e2, ← e3, Nat.mul_one, Nat.add_zero, Nat.zero_add] at h
        exact ⟨_, h⟩
      have fF := unfrozen_of_block F3.out
      have lF := lt_of_block F3.out
      clear hHeld
      refine wpAnyH_ready (rs := [8]) (by kernel_rfl) (by simp) ?_
      refine AllReadyH.cons (o := _) (by (simp only [List.getElem?_toArray]; rfl)) (fun K hK => ?_) AllReadyH.nil
      go_simp
      have hfw : w.heap.size ≤ f := by obtain ⟨f', _, e1, h2, _⟩ := O3.out.f.first (by have := HJ.out; omega); injection e1 with e1; injection e1 with e1; omega
      have x4 := (Below.heap_setCell u3 ⟨f, j, none⟩ (.int .i64 x) X HF.out.1).trans X3.out
      have r4 := (Below.heap_setCell u3 ⟨f, j, none⟩ (.int .i64 x) w.heap.size (fun h => by have h1 := R3.out; rw [h, F3.out] at h1; injection h1 with h1; injection h1 with _ h2; cases h2)).trans R3.out
      have o4 := O3.out.cellF HJ.out x
      have d4 := (RD3.out.mono (show P + 300 + 1 + 1 + 1 ≤ P + 310 by omega)).below ((Below.refl (g + 1) u3).setCell (show g + 1 ≤ (⟨f, j, none⟩ : Addr).block by have := HLT.out; simp only; omega) (.int .i64 x))
      have g4 := grown_setCell G3.out (p := ⟨f, j, none⟩) (.inr hfw) (.int .i64 x)
      obtain ⟨V, hV⟩ : ∃ V, V = u3.setCell ⟨f, j, none⟩ (.int .i64 x) := ⟨_, rfl⟩
      rw [← hV] at x4 r4 o4 d4 g4 ⊢
      have X4 := Lib.hid x4
      have R4 := Lib.hid r4
      have O4 := Lib.hid o4
      have D4 := Lib.hid d4
      have G4 := Lib.hid g4
      clear hV x4 r4 o4 d4 g4 hfw
      refine hK.out _ _ (cell_of_block X4.out) (fun hHeld => ?_)
      clear hK K hHeld
      try simp only [Act.put, List.setIfInBounds_toArray, List.set]
      refine wpAnyH_done (by kernel_rfl) ?_ _
      clear cF fF lF hj0 hj1
      have cX := cell_of_block X4.out
      have lX := lt_of_block X4.out
      have cR := cell_of_block R4.out
      have fR := unfrozen_of_block R4.out
      have lR := lt_of_block R4.out
      have hne := HX.out.2.1
      have hne' : ¬ (w.heap.size = X) := fun h => hne h.symm
      go_wp2_with fail
      refine bodyPost_ret (v := .agg #[.slice a0 z.es.length c0, .slice (some ⟨f, 0, none⟩) z.fl.length c1, .slice a2 z.la.length c2]) (by simp [results, Try.results94, go_sem, cR]) rfl ?_
      exact ⟨⟨z.es, z.fl.set j x, z.la⟩, a0, _, a2, c0, c1, c2, by simp only [List.length_set], H3.out.1, by simp only [List.length_set]; have := H3.out.2.1; omega, by have := H3.out.2.2; simp only; omega, own_any (O4.out.set3 R4.out _ _ _), D4.out.below (below_set3 (Below.refl _ _) HLT.out _ _ _), grown_set3 G4.out (Nat.le_refl _) _ _ _⟩
    exact AllReadyH.nil
  · obtain ⟨f, cur, rfl, hBf, hfb, hcz, hrb⟩ := O3.out.l.first (by have := H3.out.2.2; omega)
    have hc2 : 4 ≤ c2 := by have := O3.out.l.len; have := H3.out.2.2; omega
    have hcm : c2 ≤ 9223372036854775807 := by have := O3.out.l.max; unfold maxLen at this; exact this
    have hc2' : ¬ (c2 = 1) := by omega
    have hc2i : (4 : Int) ≤ (c2 : Int) := by omega
    have hT := O3.out.l.rows int_len
    have x3 := X3.out
    rw [H3.out.2.2] at x3
    have HX3 := Lib.hid x3
    have cX := cell_of_block x3
    have lX := lt_of_block x3
    have fX := unfrozen_of_block x3
    clear x3 hfb hcz hrb hT
    go_upto_region 10 with fail
    have hwX := HX.out.2.2.1
    have x4 : (w3.setCell ⟨X, 2, none⟩ (.slice (some ⟨f, 1, none⟩) 3 (c2 - 1))).heap[X]? = some (.cells #[.slice a0 z.es.length c0, .slice a1 z.fl.length c1, .slice (some ⟨f, 1, none⟩) 3 (c2 - 1)] 46 (0, 0)) := by exact block_setCell (i := 2) HX3.out (.slice (some ⟨f, 1, none⟩) 3 (c2 - 1))
    have r4 := (Below.heap_setCell w3 ⟨X, 2, none⟩ (.slice (some ⟨f, 1, none⟩) 3 (c2 - 1)) w.heap.size (fun h => HX.out.2.1 h.symm)).trans R3.out
    have o4 := O3.out.setType HX3.out (by decide) (by decide) 2 (.slice (some ⟨f, 1, none⟩) 3 (c2 - 1))
    have d4 := (RD3.out.mono (show P + 300 + 1 ≤ P + 310 by omega)).below ((Below.refl (g + 1) w3).setCell (show g + 1 ≤ (⟨X, 2, none⟩ : Addr).block by have := HLT.out; simp only; omega) (.slice (some ⟨f, 1, none⟩) 3 (c2 - 1)))
    have g4 := grown_setCell G3.out (p := ⟨X, 2, none⟩) (.inr (Nat.le_of_lt hwX)) (.slice (some ⟨f, 1, none⟩) 3 (c2 - 1))
    obtain ⟨V, hV⟩ : ∃ V, V = w3.setCell ⟨X, 2, none⟩ (.slice (some ⟨f, 1, none⟩) 3 (c2 - 1)) := ⟨_, rfl⟩
    rw [← hV] at x4 r4 o4 d4 g4 ⊢
    have X4 := Lib.hid x4
    have R4 := Lib.hid r4
    have O4 := Lib.hid o4
    have D4 := Lib.hid d4
    have G4 := Lib.hid g4
    have HC2 := Lib.hid (And.intro hc2 (And.intro hcm hc2'))
    have H31 := Lib.hid (show (z.la.drop 1).length = 3 by rw [List.length_drop]; have := H3.out.2.2; omega)
    clear hV x4 r4 o4 d4 g4 cX lX fX hwX hc2 hcm hc2' hc2i
    have cX := cell_of_block X4.out
    have lX := lt_of_block X4.out
    have cR := cell_of_block R4.out
    have fR := unfrozen_of_block R4.out
    have lR := lt_of_block R4.out
    have hne := HX.out.2.1
    have hne' : ¬ (w.heap.size = X) := fun h => hne h.symm
    go_wp2_with fail
    refine bodyPost_ret (v := .agg #[.slice a0 z.es.length c0, .slice a1 z.fl.length c1, .slice (some ⟨f, 1, none⟩) 3 (c2 - 1)]) (by simp [results, Try.results94, go_sem, cR]) rfl ?_
    refine ⟨⟨z.es, z.fl, z.la.drop 1⟩, a0, a1, some ⟨f, 1, none⟩, c0, c1, c2 - 1, by simp only; rw [H31.out], H3.out.1, by have := H3.out.2.1; simp only; omega, by simp only; rw [H31.out]; decide, ?_, D4.out.below (below_set3 (Below.refl _ _) HLT.out _ _ _), grown_set3 G4.out (Nat.le_refl _) _ _ _⟩
    intro V' k
    have O5 := (O4.out.set3 R4.out _ _ _).since k
    have hT := (O5.l.rows int_len).tailG 1 c2 (fun h => absurd h HC2.out.2.2)
    rw [if_neg HC2.out.2.2] at hT
    exact ⟨O5.e.sl five_len, O5.f.sl int_len, some ⟨f, 1, none⟩, c2 - 1, rfl, by have h1 := H31.out; have h2 := HC2.out.1; simp only; omega, by have h2 := HC2.out.2.1; unfold maxLen; omega, hT⟩
  · by_cases h0 : (0 : Int) < (z.es.length : Int)
    · have h0n : 0 < z.es.length := by omega
      have HE0 := Lib.hid h0n
      obtain ⟨f, cur, rfl, hBf, hfb, hcz, hrb⟩ := O3.out.e.first h0n
      have hXf : X ≠ f := by
        intro h
        have h1 := X3.out
        rw [h, hfb] at h1
        injection h1 with h1
        injection h1 with _ h2
        cases h2
      have hfg : f ≠ g := by have := HLT.out; omega
      have HF := Lib.hid (And.intro hXf hfg)
      have HFW := Lib.hid hBf
      have FB := Lib.hid hfb
      clear hXf hfg hfb hBf hcz hrb
      have cX := cell_of_block X3.out
      have lX := lt_of_block X3.out
      go_wp2_with fail
      clear cX lX
      refine wp_region_held_drew (S := fun w' => ∀ i, w'.cell? ⟨X, i, none⟩ = (#[.slice (some ⟨f, 0, none⟩) z.es.length c0, .slice a1 z.fl.length c1, .slice a2 z.la.length c2] : Array Value)[i]?) (by kernel_rfl) (cell_of_block (show w3.drew.heap[X]? = _ from X3.out)) (fun hHeld => ?_)
      refine wpAnyH_take (i := 0) (oi := _) (v := ?_) (by (simp only [List.getElem?_toArray]; rfl)) (by kernel_rfl) (by kernel_rfl) (by kernel_rfl) (by exact fun _ _ _ h => h) (Or.inl ⟨by rfl, ?_⟩) (by assumption) ?_
      rotate_left
      · intro wS hSw
        go_simp
        all_goals first | with_reducible rfl | rw [if_neg (by omega)]
      simp only [Act.put, List.setIfInBounds_toArray, List.set]
      refine wpAnyH_take (i := 1) (oi := _) (v := ?_) (by (simp only [List.getElem?_toArray]; rfl)) (by kernel_rfl) (by kernel_rfl) (by kernel_rfl) (by exact fun _ _ _ h => h) (Or.inl ⟨by rfl, ?_⟩) (by assumption) ?_
      rotate_left
      · intro wS hSw
        go_simp
        all_goals first | with_reducible rfl | rw [if_neg (by omega)]
      simp only [Act.put, List.setIfInBounds_toArray, List.set]
      refine wpAnyH_take (i := 2) (oi := _) (v := ?_) (by (simp only [List.getElem?_toArray]; rfl)) (by kernel_rfl) (by kernel_rfl) (by kernel_rfl) (by exact fun _ _ _ h => h) (Or.inl ⟨by rfl, ?_⟩) (by assumption) ?_
      rotate_left
      · intro wS hSw
        go_simp
        all_goals first | with_reducible rfl | rw [if_neg (by omega)]
      simp only [Act.put, List.setIfInBounds_toArray, List.set]
      clear hHeld
      obtain ⟨wd, hwd, kwd⟩ : ∃ wd, wd = w3.drew ∧ Below w3.heap.size w3 wd := ⟨_, rfl, Below.drew (Below.refl _ _)⟩
      rw [← hwd]
      clear hwd
      have X0 := Lib.hid (carryN kwd X3.out)
      have R0 := Lib.hid (carryN kwd R3.out)
      have F0 := Lib.hid (carryN kwd FB.out)
      have O0 := Lib.hid (O3.out.below kwd)
      have G0 := Lib.hid (grown_trans G3.out (grown_of_below kwd (some g)))
      have RD0 := Lib.hid (RD3.out.below (kwd.mono RD3.out.lt))
      clear kwd X3 R3 O3 G3 RD3 FB
      refine wpAnyH_ready (rs := [3]) (by kernel_rfl) (by simp) ?_
      refine AllReadyH.cons (o := _) (by (simp only [List.getElem?_toArray]; rfl)) (fun K hK => ?_) AllReadyH.nil
      go_simp
      obtain ⟨u1, hu, su, nB, ku⟩ := blocks1 wd (.cells #[.int .i64 (-1), .int .i64 4, .int .i64 0] 3)
      rw [← hu]
      clear hu su
      have hNg : wd.heap.size ≠ g := by have := RD0.out.lt; omega
      obtain ⟨N, hN⟩ : ∃ N, N = wd.heap.size := ⟨_, rfl⟩
      rw [← hN] at nB hNg ⊢
      clear hN
      have X1 := Lib.hid (carryN ku X0.out)
      have R1 := Lib.hid (carryN ku R0.out)
      have F1 := Lib.hid (carryN ku F0.out)
      have O1 := Lib.hid (O0.out.below ku)
      have G1 := Lib.hid (grown_trans G0.out (grown_of_below ku (some g)))
      have RD1 := Lib.hid (RD0.out.below (ku.mono RD0.out.lt))
      have NB := Lib.hid nB
      have HNG := Lib.hid hNg
      clear ku nB hNg X0 R0 F0 O0 G0 RD0
      refine hK.out _ _ (cell_of_block X1.out) (fun hHeld => ?_)
      clear hK K hHeld
      try simp only [Act.put, List.setIfInBounds_toArray, List.set]
      refine wpAnyH_ready (rs := [4]) (by kernel_rfl) (by simp) ?_
      refine AllReadyH.cons (o := _) (by (simp only [List.getElem?_toArray]; rfl)) (fun K hK => ?_) AllReadyH.nil
      go_simp
      refine (one_c _ g (P + 300 + 1) N 3 _ [-1, 4, 0] _ RD1.out (by omega) HNG.out NB.out rfl rfl (by decide) (by decide)).mono ?_
      rintro e u2 ⟨x, -, rfl, rr, kk⟩
      have X2 := Lib.hid (carry kk HX.out.1 X1.out)
      have R2 := Lib.hid (carry kk HX.out.2.2.2 R1.out)
      have F2 := Lib.hid (carry kk HF.out.2 F1.out)
      have O2 := Lib.hid (O1.out.grownG kk HLT.out)
      have G2 := Lib.hid (grown_trans G1.out kk)
      have RD2 := Lib.hid rr
      replace NB := Lib.hid (carry kk HNG.out NB.out)
      clear kk rr X1 R1 F1 O1 G1 RD1
      refine hK.out _ _ (cell_of_block X2.out) (fun hHeld => ?_)
      clear hK K hHeld
      try simp only [Act.put, List.setIfInBounds_toArray, List.set]
      have hHeld := cell_of_block X2.out
      refine wpAnyH_take (i := 5) (oi := _) (v := ?_) (by (simp only [List.getElem?_toArray]; rfl)) (by kernel_rfl) (by kernel_rfl) (by kernel_rfl) (by exact fun _ _ _ h => h) (Or.inl ⟨by rfl, ?_⟩) (by assumption) ?_
      rotate_left
      · intro wS hSw
        go_simp
        all_goals first | with_reducible rfl | rw [if_neg (by omega)]
      simp only [Act.put, List.setIfInBounds_toArray, List.set]
      refine wpAnyH_take (i := 6) (oi := _) (v := ?_) (by (simp only [List.getElem?_toArray]; rfl)) (by kernel_rfl) (by kernel_rfl) (by kernel_rfl) (by exact fun _ _ _ h => h) (Or.inl ⟨by rfl, ?_⟩) (by assumption) ?_
      rotate_left
      · intro wS hSw
        go_simp
        all_goals first | with_reducible rfl | rw [if_neg (by omega)]
      simp only [Act.put, List.setIfInBounds_toArray, List.set]
      obtain ⟨yF, cF⟩ : ∃ y : Int, u2.cell? ⟨f, 1, none⟩ = some (.int .i64 y) := by
        obtain ⟨b, oo, e1, hl, hc⟩ := (O2.out.e.rows five_len) 0 HE0.out
        injection e1 with e1
        injection e1 with e2 e3
        have h := hc 1 (by decide)
        rw [← e2, ← e3] at h
        exact ⟨_, h⟩
      have fF := unfrozen_of_block F2.out
      have lF := lt_of_block F2.out
      clear hHeld
      refine wpAnyH_ready (rs := [7]) (by kernel_rfl) (by simp) ?_
      refine AllReadyH.cons (o := _) (by (simp only [List.getElem?_toArray]; rfl)) (fun K hK => ?_) AllReadyH.nil
      go_simp
      have x4 := (Below.heap_setCell u2 ⟨f, 1, none⟩ (.int .i64 x) X HF.out.1).trans X2.out
      have r4 := (Below.heap_setCell u2 ⟨f, 1, none⟩ (.int .i64 x) w.heap.size (fun h => by have h1 := R2.out; rw [h, F2.out] at h1; injection h1 with h1; injection h1 with _ h2; cases h2)).trans R2.out
      have o4 := (show Own3 (u2.setCell ⟨f, 1, none⟩ (.int .i64 x)) _ _ _ _ _ _ _ _ from O2.out.cellE HE0.out (show 1 < 5 by decide) ⟨z.es[0].c, x, z.es[0].o, z.es[0].x, z.es[0].y⟩ (.int .i64 x) rfl (fun j' h1 h2 => by rcases j' with _ | _ | _ | _ | _ | j' <;> first | rfl | omega))
      have d4 := (RD2.out.mono (show P + 300 + 1 + 1 ≤ P + 310 by omega)).below ((Below.refl (g + 1) u2).setCell (show g + 1 ≤ (⟨f, 1, none⟩ : Addr).block by have := HLT.out; have := HFW.out; simp only; omega) (.int .i64 x))
      have g4 := grown_setCell G2.out (p := ⟨f, 1, none⟩) (.inr HFW.out) (.int .i64 x)
      obtain ⟨V, hV⟩ : ∃ V, V = u2.setCell ⟨f, 1, none⟩ (.int .i64 x) := ⟨_, rfl⟩
      rw [← hV] at x4 r4 o4 d4 g4 ⊢
      have X4 := Lib.hid x4
      have R4 := Lib.hid r4
      have O4 := Lib.hid o4
      have D4 := Lib.hid d4
      have G4 := Lib.hid g4
      clear hV x4 r4 o4 d4 g4
      refine hK.out _ _ (cell_of_block X4.out) (fun hHeld => ?_)
      clear hK K hHeld
      try simp only [Act.put, List.setIfInBounds_toArray, List.set]
      refine wpAnyH_done (by kernel_rfl) ?_ _
      clear cF fF lF
      have cX := cell_of_block X4.out
      have lX := lt_of_block X4.out
      have cR := cell_of_block R4.out
      have fR := unfrozen_of_block R4.out
      have lR := lt_of_block R4.out
      have hne := HX.out.2.1
      have hne' : ¬ (w.heap.size = X) := fun h => hne h.symm
      go_wp2_with fail
      refine bodyPost_ret (v := .agg #[.slice (some ⟨f, 0, none⟩) z.es.length c0, .slice a1 z.fl.length c1, .slice a2 z.la.length c2]) (by simp [results, Try.results94, go_sem, cR]) rfl ?_
      exact ⟨⟨z.es.set 0 ⟨z.es[0].c, x, z.es[0].o, z.es[0].x, z.es[0].y⟩, z.fl, z.la⟩, _, a1, a2, c0, c1, c2, by simp only [List.length_set], by simp only [List.length_set]; exact H3.out.1, by have := H3.out.2.1; simp only; omega, by have := H3.out.2.2; simp only; omega, own_any (O4.out.set3 R4.out _ _ _), D4.out.below (below_set3 (Below.refl _ _) HLT.out _ _ _), grown_set3 G4.out (Nat.le_refl _) _ _ _⟩
    · have cX := cell_of_block X3.out
      have lX := lt_of_block X3.out
      have cR := cell_of_block R3.out
      have fR := unfrozen_of_block R3.out
      have lR := lt_of_block R3.out
      have hne := HX.out.2.1
      have hne' : ¬ (w.heap.size = X) := fun h => hne h.symm
      go_wp2_with fail
      refine bodyPost_ret (v := .agg #[.slice a0 z.es.length c0, .slice a1 z.fl.length c1, .slice a2 z.la.length c2]) (by simp [results, Try.results94, go_sem, cR]) rfl ?_
      exact ⟨z, a0, a1, a2, c0, c1, c2, rfl, H3.out.1, by have := H3.out.2.1; omega, by have := H3.out.2.2; omega, own_any (O3.out.set3 R3.out _ _ _), (RD3.out.mono (by omega)).below (below_set3 (Below.refl _ _) HLT.out _ _ _), grown_set3 G3.out (Nat.le_refl _) _ _ _⟩
  · have n0 : (p == 0) = false := by simp; omega
    have n1 : (p == 1) = false := by simp; omega
    have n2 : (p == 2) = false := by simp; omega
    have cX := cell_of_block X3.out
    have lX := lt_of_block X3.out
    have cR := cell_of_block R3.out
    have fR := unfrozen_of_block R3.out
    have lR := lt_of_block R3.out
    have hne := HX.out.2.1
    have hne' : ¬ (w.heap.size = X) := fun h => hne h.symm
    go_wp2_with fail
    refine bodyPost_ret (v := .agg #[.slice a0 z.es.length c0, .slice a1 z.fl.length c1, .slice a2 z.la.length c2]) (by simp [results, Try.results94, go_sem, cR]) rfl ?_
    exact ⟨z, a0, a1, a2, c0, c1, c2, rfl, H3.out.1, by have := H3.out.2.1; omega, by have := H3.out.2.2; omega, own_any (O3.out.set3 R3.out _ _ _), (RD3.out.mono (by omega)).below (below_set3 (Below.refl _ _) HLT.out _ _ _), grown_set3 G3.out (Nat.le_refl _) _ _ _⟩
end Go.Proofs.Ytofedboeggdkaaa

/-! The draw of a game and an ask (DrawGameDo); no condition but a code of bytes. -/
namespace Go.Proofs.Ytofedboeggdkaaa
open Go.RowKit Go.Joins

/-- A game and an ask, drawn. -/
def GameAsk (w : World) (e : Ending) (w' : World) : Prop :=
  ∃ (z : Gm) (r : Rq) (a0 a1 a2 : Option Addr) (c0 c1 c2 : Nat), e = .returned (.tuple #[.agg #[.slice a0 z.es.length c0, .slice a1 z.fl.length c1, .slice a2 z.la.length c2], .agg #[.int .i64 r.c, .int .i64 r.n, .int .i64 r.o, .int .i64 r.x, .int .i64 r.y]]) ∧ z.es.length ≤ 4 ∧ z.fl.length ≤ 16 ∧ z.la.length ≤ 4 ∧
    IsSl w' (.slice a0 z.es.length c0) 5 Rq.cs z.es ∧ IsSl w' (.slice a1 z.fl.length c1) 1 intR z.fl ∧ IsSl w' (.slice a2 z.la.length c2) 1 intR z.la ∧ Below w.heap.size w w'
theorem block_setQ {w : World} {G : Nat} {p q r s t : Value} {T : TypeId} (hG : w.heap[G]? = some (.cells #[p, q, r, s, t] T (0, 0))) (a b c d e : Value) :
    (((((w.setCell ⟨G, 0, none⟩ a).setCell ⟨G, 1, none⟩ b).setCell ⟨G, 2, none⟩ c).setCell ⟨G, 3, none⟩ d).setCell ⟨G, 4, none⟩ e).heap[G]? = some (.cells #[a, b, c, d, e] T (0, 0)) := by
  exact block_setCell (i := 4) (block_setCell (i := 3) (block_setCell (i := 2) (block_setCell (i := 1) (block_setCell (i := 0) hG a) b) c) d) e
theorem below_setQ {A w : World} {D G : Nat} (h : Below D A w) (hG : D ≤ G) (a b c d e : Value) : Below D A (((((w.setCell ⟨G, 0, none⟩ a).setCell ⟨G, 1, none⟩ b).setCell ⟨G, 2, none⟩ c).setCell ⟨G, 3, none⟩ d).setCell ⟨G, 4, none⟩ e) :=
  Below.setCell (Below.setCell (Below.setCell (Below.setCell (Below.setCell h hG _) hG _) hG _) hG _) hG _
theorem block_keptQ {w : World} {G k : Nat} (hb : k ≠ G) (a b c d e : Value) : (((((w.setCell ⟨G, 0, none⟩ a).setCell ⟨G, 1, none⟩ b).setCell ⟨G, 2, none⟩ c).setCell ⟨G, 3, none⟩ d).setCell ⟨G, 4, none⟩ e).heap[k]? = w.heap[k]? := by
  repeat rw [Below.heap_setCell _ _ _ _ (by simpa using hb)]

set_option maxRecDepth 100000 in
set_option maxHeartbeats 8000000 in
theorem DrawGameDo_c (v : Value) (z : Bts) (w : World) (hz : IsBytes w v z) :
    Calls Try.prog 42 #[v] w (GameAsk w) := by
  have HZ := Lib.hid hz
  clear hz
  go_enter Try.func42, Try.ntmps42
  go_wp2_with fail
  obtain ⟨W, hW, sW, rW, qW, kW⟩ := blocks2 w (.cells #[.slice none 0 0, .slice none 0 0, .slice none 0 0] 46) (.cells #[.int .i64 0, .int .i64 0, .int .i64 0, .int .i64 0, .int .i64 0] 34)
  rw [← hW]
  clear hW
  refine (l20Open_c v z W (HZ.out.below kW)).mono ?_
  rintro e w1 ⟨g, rfl, hg, r1, k1⟩
  go_wp2_with fail
  refine (l20AnyGame_c w1 g 0 r1 (by omega)).mono ?_
  rintro e w2 ⟨zz, a0, a1, a2, c0, c1, c2, rfl, l0, l1, l2, hk, r2, k2⟩
  have LN := Lib.hid (And.intro l0 (And.intro l1 l2))
  have HK := Lib.hid hk
  obtain ⟨m0, hm0⟩ : ∃ m, m = zz.es.length := ⟨_, rfl⟩
  obtain ⟨m1, hm1⟩ : ∃ m, m = zz.fl.length := ⟨_, rfl⟩
  obtain ⟨m2, hm2⟩ : ∃ m, m = zz.la.length := ⟨_, rfl⟩
  have M0 := Lib.hid hm0
  have M1 := Lib.hid hm1
  have M2 := Lib.hid hm2
  rw [← hm0, ← hm1, ← hm2] at HK LN ⊢
  clear hk l0 l1 l2 hm0 hm1 hm2
  have KW := Lib.hid (below_next kW k1)
  have K2 := Lib.hid (bel_grown KW.out k2 (by omega))
  have R2 := Lib.hid (carry k2 (by omega) (carryN k1 rW))
  have Q2 := Lib.hid (carry k2 (by omega) (carryN k1 qW))
  have RD2 := Lib.hid r2
  have HG := Lib.hid (show w.heap.size + 1 < g by omega)
  have HB := Lib.hid (show w.heap.size + 1 < w1.heap.size ∧ g < w1.heap.size from ⟨by have := r1.lt; omega, r1.lt⟩)
  have S2 := Lib.hid (Since.refl w1.heap.size w2)
  have HWW := Lib.hid (show w1.heap.size ≤ w2.heap.size from k2.size)
  clear kW k1 k2 r1 r2 rW qW KW HZ
  go_wp2_with fail
  obtain ⟨w3, hw3, sw3, xB, k3⟩ := blocks1 w2 (.cells #[.slice a0 m0 c0, .slice a1 m1 c1, .slice a2 m2 c2] 46)
  rw [← hw3]
  clear hw3
  have hgl := RD2.out.lt
  refine (l20AnyReq_c w3 g (0 + 310) (RD2.out.below (k3.mono hgl)) (by omega)).mono ?_
  rintro e w4 ⟨⟨c, n, oo, x, y⟩, rfl, r4, k4⟩
  obtain ⟨X, hX⟩ : ∃ X, X = w2.heap.size := ⟨_, rfl⟩
  rw [← hX] at xB ⊢
  have hs4 := k4.size
  have hgw := HG.out
  have hXg : X ≠ g := by omega
  have hXl : g < X := by omega
  have X4 := Lib.hid (carry k4 hXg xB)
  have R4 := Lib.hid (carry k4 (by omega) (carryN k3 R2.out))
  have Q4 := Lib.hid (carry k4 (by omega) (carryN k3 Q2.out))
  have G4 := Lib.hid (grown_trans (grown_of_below k3 (some g)) k4)
  have RD4 := Lib.hid r4
  have S4 := Lib.hid ((S2.out.below k3).grown k4 HB.out.2)
  have XL := Lib.hid (show g < X ∧ X < w4.heap.size ∧ w2.heap.size ≤ X by omega)
  clear xB k3 k4 r4 hX R2 Q2 RD2 hgl hs4 hXg hXl sw3 hgw
  go_wp2_with fail
  obtain ⟨w5, hw5, sw5, yB, k5⟩ := blocks1 w4 (.cells #[.int .i64 c, .int .i64 n, .int .i64 oo, .int .i64 x, .int .i64 y] 34)
  rw [← hw5]
  clear hw5
  have hgl := RD4.out.lt
  refine (pick_c w5 g _ 4 (RD4.out.below (k5.mono hgl)) (by omega) (by omega)).mono ?_
  rintro e w6 ⟨p, rfl, hp0, -, -, r6, k6⟩
  obtain ⟨Y, hY⟩ : ∃ Y, Y = w4.heap.size := ⟨_, rfl⟩
  rw [← hY] at yB ⊢
  have hgw := HG.out
  have hxl := XL.out
  have X6 := Lib.hid (carry k6 (by omega) (carryN k5 X4.out))
  have Y6 := Lib.hid (carry k6 (by omega) yB)
  have R6 := Lib.hid (carry k6 (by omega) (carryN k5 R4.out))
  have Q6 := Lib.hid (carry k6 (by omega) (carryN k5 Q4.out))
  have G6 := Lib.hid (grown_trans (grown_trans G4.out (grown_of_below k5 (some g))) k6)
  have hw2s : w.heap.size ≤ w2.heap.size := K2.out.size
  have K6 := Lib.hid (bel_grown K2.out G6.out (by omega))
  have S6 := Lib.hid ((S4.out.below k5).grown k6 HB.out.2)
  have NE := Lib.hid (show g < X ∧ X < Y ∧ w.heap.size + 1 < X ∧ w2.heap.size ≤ X by omega)
  clear yB k5 k6 r6 hY X4 R4 Q4 G4 RD4 XL S2 S4 hgl hgw hxl hw2s sw5 G6 HG
  by_cases hp : (0 : Int) < p
  · skip
    have cX := cell_of_block X6.out
    have lX := lt_of_block X6.out
    have cY := cell_of_block Y6.out
    have lY := lt_of_block Y6.out
    go_wp2_with fail
    refine (l1Ok_c c n oo x y w6).mono ?_
    rintro e w7 ⟨rfl, k7⟩
    have X7 := Lib.hid (carryN k7 X6.out)
    have Y7 := Lib.hid (carryN k7 Y6.out)
    have R7 := Lib.hid (carryN k7 R6.out)
    have Q7 := Lib.hid (carryN k7 Q6.out)
    have S7 := Lib.hid (S6.out.below k7)
    have K7 := Lib.hid (below_next K6.out k7)
    clear k7 cX lX cY lY X6 Y6 R6 Q6 S6 K6
    cases hok : okB c n oo x y with
    | false =>
      clear hok
      have cX := cell_of_block X7.out
      have lX := lt_of_block X7.out
      have cY := cell_of_block Y7.out
      have lY := lt_of_block Y7.out
      go_wp2_with fail
      refine wp_region_held_drew (S := fun w' => (∀ i, w'.cell? ⟨X, i, none⟩ = (#[.slice a0 m0 c0, .slice a1 m1 c1, .slice a2 m2 c2] : Array Value)[i]?) ∧ ∀ i, w'.cell? ⟨Y, i, none⟩ = (#[.int .i64 c, .int .i64 n, .int .i64 oo, .int .i64 x, .int .i64 y] : Array Value)[i]?) (by kernel_rfl) ⟨cell_of_block (show w7.drew.heap[X]? = _ from X7.out), cell_of_block (show w7.drew.heap[Y]? = _ from Y7.out)⟩ (fun hHeld => ?_)
      refine wpAnyH_take (i := 0) (oi := _) (v := ?_) (by (simp only [List.getElem?_toArray]; rfl)) (by kernel_rfl) (by kernel_rfl) (by kernel_rfl) (by exact fun _ _ _ h => h) (Or.inl ⟨by rfl, ?_⟩) (by assumption) ?_
      rotate_left
      · intro wS hSw
        go_simp
        all_goals first | with_reducible rfl | rw [if_neg (by omega)]
      simp only [Act.put, List.setIfInBounds_toArray, List.set]
      refine wpAnyH_take (i := 1) (oi := _) (v := ?_) (by (simp only [List.getElem?_toArray]; rfl)) (by kernel_rfl) (by kernel_rfl) (by kernel_rfl) (by exact fun _ _ _ h => h) (Or.inl ⟨by rfl, ?_⟩) (by assumption) ?_
      rotate_left
      · intro wS hSw
        go_simp
        all_goals first | with_reducible rfl | rw [if_neg (by omega)]
      simp only [Act.put, List.setIfInBounds_toArray, List.set]
      clear hHeld
      obtain ⟨wd, hwd, kwd⟩ : ∃ wd, wd = w7.drew ∧ Below w7.heap.size w7 wd := ⟨_, rfl, Below.drew (Below.refl _ _)⟩
      rw [← hwd]
      clear hwd
      have X0 := Lib.hid (carryN kwd X7.out)
      have Y0 := Lib.hid (carryN kwd Y7.out)
      have R0 := Lib.hid (carryN kwd R7.out)
      have Q0 := Lib.hid (carryN kwd Q7.out)
      have S0 := Lib.hid (S7.out.below kwd)
      have K0 := Lib.hid (below_next K7.out kwd)
      have hne := NE.out
      have cR := cell_of_block R0.out
      have fR := unfrozen_of_block R0.out
      have lR := lt_of_block R0.out
      refine wpAnyH_ready (rs := [2]) (by kernel_rfl) (by simp) ?_
      refine AllReadyH.cons (o := _) (by (simp only [List.getElem?_toArray]; rfl)) (fun K hK => ?_) AllReadyH.nil
      go_simp
      obtain ⟨V1, hV1⟩ : ∃ V, V = (((wd.setCell ⟨w.heap.size, 0, none⟩ (.slice a0 m0 c0)).setCell ⟨w.heap.size, 1, none⟩ (.slice a1 m1 c1)).setCell ⟨w.heap.size, 2, none⟩ (.slice a2 m2 c2)) := ⟨_, rfl⟩
      have x1 := (block_kept3 (w := wd) (G := w.heap.size) (b := X) (by omega) (.slice a0 m0 c0) (.slice a1 m1 c1) (.slice a2 m2 c2)).trans X0.out
      have y1 := (block_kept3 (w := wd) (G := w.heap.size) (b := Y) (by omega) (.slice a0 m0 c0) (.slice a1 m1 c1) (.slice a2 m2 c2)).trans Y0.out
      have q1 := (block_kept3 (w := wd) (G := w.heap.size) (b := w.heap.size + 1) (by omega) (.slice a0 m0 c0) (.slice a1 m1 c1) (.slice a2 m2 c2)).trans Q0.out
      have r1 := block_set3 R0.out (.slice a0 m0 c0) (.slice a1 m1 c1) (.slice a2 m2 c2)
      have s1 := ((S0.out.set (p := ⟨w.heap.size, 0, none⟩) (.inl (by have := HB.out.1; simp only; omega)) (.slice a0 m0 c0)).set (p := ⟨w.heap.size, 1, none⟩) (.inl (by have := HB.out.1; simp only; omega)) (.slice a1 m1 c1)).set (p := ⟨w.heap.size, 2, none⟩) (.inl (by have := HB.out.1; simp only; omega)) (.slice a2 m2 c2)
      have b1 := below_set3 K0.out (Nat.le_refl _) (.slice a0 m0 c0) (.slice a1 m1 c1) (.slice a2 m2 c2)
      rw [← hV1] at x1 y1 q1 r1 s1 b1 ⊢
      clear hV1 cR fR lR
      have Q1 := Lib.hid q1
      have R1 := Lib.hid r1
      have S1 := Lib.hid s1
      have B1 := Lib.hid b1
      refine hK.out _ _ ⟨cell_of_block x1, cell_of_block y1⟩ (fun hHeld => ?_)
      clear hK K hHeld
      try simp only [Act.put, List.setIfInBounds_toArray, List.set]
      have X1 := Lib.hid x1
      have Y1 := Lib.hid y1
      clear x1 y1 q1 r1 s1 b1 kwd
      have cQ := cell_of_block Q1.out
      have fQ := unfrozen_of_block Q1.out
      have lQ := lt_of_block Q1.out
      refine wpAnyH_ready (rs := [3]) (by kernel_rfl) (by simp) ?_
      refine AllReadyH.cons (o := _) (by (simp only [List.getElem?_toArray]; rfl)) (fun K hK => ?_) AllReadyH.nil
      go_simp
      obtain ⟨V2, hV2⟩ : ∃ V, V = (((((V1.setCell ⟨w.heap.size + 1, 0, none⟩ (.int .i64 c)).setCell ⟨w.heap.size + 1, 1, none⟩ (.int .i64 n)).setCell ⟨w.heap.size + 1, 2, none⟩ (.int .i64 oo)).setCell ⟨w.heap.size + 1, 3, none⟩ (.int .i64 x)).setCell ⟨w.heap.size + 1, 4, none⟩ (.int .i64 y)) := ⟨_, rfl⟩
      have x2 := (block_keptQ (w := V1) (G := w.heap.size + 1) (k := X) (by omega) (.int .i64 c) (.int .i64 n) (.int .i64 oo) (.int .i64 x) (.int .i64 y)).trans X1.out
      have y2 := (block_keptQ (w := V1) (G := w.heap.size + 1) (k := Y) (by omega) (.int .i64 c) (.int .i64 n) (.int .i64 oo) (.int .i64 x) (.int .i64 y)).trans Y1.out
      have r2 := (block_keptQ (w := V1) (G := w.heap.size + 1) (k := w.heap.size) (by omega) (.int .i64 c) (.int .i64 n) (.int .i64 oo) (.int .i64 x) (.int .i64 y)).trans R1.out
      have q2 := block_setQ Q1.out (.int .i64 c) (.int .i64 n) (.int .i64 oo) (.int .i64 x) (.int .i64 y)
      have hqB : w.heap.size + 1 < w1.heap.size := HB.out.1
      have s2 := ((((S1.out.set (p := ⟨w.heap.size + 1, 0, none⟩) (.inl hqB) (.int .i64 c)).set (p := ⟨w.heap.size + 1, 1, none⟩) (.inl hqB) (.int .i64 n)).set (p := ⟨w.heap.size + 1, 2, none⟩) (.inl hqB) (.int .i64 oo)).set (p := ⟨w.heap.size + 1, 3, none⟩) (.inl hqB) (.int .i64 x)).set (p := ⟨w.heap.size + 1, 4, none⟩) (.inl hqB) (.int .i64 y)
      have b2 := below_setQ B1.out (Nat.le_succ _) (.int .i64 c) (.int .i64 n) (.int .i64 oo) (.int .i64 x) (.int .i64 y)
      rw [← hV2] at x2 y2 r2 q2 s2 b2 ⊢
      clear hV2 cQ fQ lQ hqB
      refine hK.out _ _ ⟨cell_of_block x2, cell_of_block y2⟩ (fun hHeld => ?_)
      clear hK K hHeld
      try simp only [Act.put, List.setIfInBounds_toArray, List.set]
      refine wpAnyH_done (by kernel_rfl) ?_ _
      have S9 := Lib.hid s2
      have B9 := Lib.hid b2
      have cR := cell_of_block r2
      have cQ := cell_of_block q2
      clear x2 y2 r2 q2 s2 b2 hne
      go_wp2_with fail
      refine bodyPost_ret (v := .tuple #[.agg #[.slice a0 m0 c0, .slice a1 m1 c1, .slice a2 m2 c2], .agg #[.int .i64 c, .int .i64 n, .int .i64 oo, .int .i64 x, .int .i64 y]]) (by simp [results, Try.results42, go_sem, cR, cQ]) rfl ?_
      obtain ⟨t0, t1, t2⟩ := HK.out V2 S9.out
      refine ⟨zz, ⟨c, n, oo, x, y⟩, a0, a1, a2, c0, c1, c2, by rw [← M0.out, ← M1.out, ← M2.out], ?_⟩
      rw [← M0.out, ← M1.out, ← M2.out]
      exact ⟨LN.out.1, LN.out.2.1, LN.out.2.2, t0, t1, t2, B9.out⟩
    | true =>
      have hb := okB_xy hok
      have HCR := Lib.hid (And.intro hb.1 hb.2.1)
      clear hok hb
      by_cases h4 : m2 = 4
      · subst h4
        obtain ⟨j, hj⟩ : ∃ j : Nat, (j : Int) = c - 1 := ⟨(c - 1).toNat, by have := HCR.out; omega⟩
        have hcj : c - 1 = (j : Int) := hj.symm
        have hwj : IntKind.i64.wrap (j : Int) = (j : Int) := IntWalk.i64_in _ ⟨by omega, by have := HCR.out; omega⟩
        have hj0 : (0 : Int) ≤ (j : Int) := by omega
        have hj4 : (j : Int) < 4 := by have := HCR.out; omega
        obtain ⟨-, -, tl⟩ := HK.out w7 S7.out
        obtain ⟨-, -, -, hr⟩ := tl.bounds
        obtain ⟨b, off, ha, hl, hc⟩ := hr j (by have := M2.out; omega)
        have cL := hc 0 (by decide)
        rw [Nat.mul_one, Nat.add_zero] at cL
        replace cL : w7.cell? ⟨b, off + j, none⟩ = some (.int .i64 (zz.la[j]'(by have := M2.out; omega))) := cL
        generalize zz.la[j]'(by have := M2.out; omega) = L at cL
        subst ha
        clear hj hc hr tl
        have cX := cell_of_block X7.out
        have lX := lt_of_block X7.out
        have cY := cell_of_block Y7.out
        have lY := lt_of_block Y7.out
        have fY := unfrozen_of_block Y7.out
        by_cases h30 : L < 30
        · go_upto_region 6 with fail
          have hne := NE.out
          have hYw := HWW.out
          have x8 := (Below.heap_setCell w7 ⟨Y, 1, none⟩ (.int .i64 (wrap64 (L + 1))) X (by simp only; omega)).trans X7.out
          have r8 := (Below.heap_setCell w7 ⟨Y, 1, none⟩ (.int .i64 (wrap64 (L + 1))) w.heap.size (by simp only; omega)).trans R7.out
          have q8 := (Below.heap_setCell w7 ⟨Y, 1, none⟩ (.int .i64 (wrap64 (L + 1))) (w.heap.size + 1) (by simp only; omega)).trans Q7.out
          have y8 : (w7.setCell ⟨Y, 1, none⟩ (.int .i64 (wrap64 (L + 1)))).heap[Y]? = some (.cells #[.int .i64 c, .int .i64 (wrap64 (L + 1)), .int .i64 oo, .int .i64 x, .int .i64 y] 34 (0, 0)) := by exact block_setCell (i := 1) Y7.out (.int .i64 (wrap64 (L + 1)))
          have s8 := S7.out.set (p := ⟨Y, 1, none⟩) (.inr (by simp only; omega)) (.int .i64 (wrap64 (L + 1)))
          have b8 := Below.setCell K7.out (show w.heap.size ≤ (⟨Y, 1, none⟩ : Addr).block by simp only; omega) (.int .i64 (wrap64 (L + 1)))
          obtain ⟨w8, hw8⟩ : ∃ V, V = w7.setCell ⟨Y, 1, none⟩ (.int .i64 (wrap64 (L + 1))) := ⟨_, rfl⟩
          rw [← hw8] at x8 r8 q8 y8 s8 b8 ⊢
          have X8 := Lib.hid x8
          have Y8 := Lib.hid y8
          have R8 := Lib.hid r8
          have Q8 := Lib.hid q8
          have S8 := Lib.hid s8
          have K8 := Lib.hid b8
          obtain ⟨n8, hn8⟩ : ∃ k, k = wrap64 (L + 1) := ⟨_, rfl⟩
          rw [← hn8] at Y8 ⊢
          clear hw8 x8 r8 q8 y8 s8 b8 hn8 cX lX cY lY fY cL hne hYw hcj hwj hj0 hj4
          have cX := cell_of_block X8.out
          have lX := lt_of_block X8.out
          have cY := cell_of_block Y8.out
          have lY := lt_of_block Y8.out
          go_wp2_with fail
          refine wp_region_held_drew (S := fun w' => (∀ i, w'.cell? ⟨X, i, none⟩ = (#[.slice a0 m0 c0, .slice a1 m1 c1, .slice (some ⟨b, off, none⟩) 4 c2] : Array Value)[i]?) ∧ ∀ i, w'.cell? ⟨Y, i, none⟩ = (#[.int .i64 c, .int .i64 n8, .int .i64 oo, .int .i64 x, .int .i64 y] : Array Value)[i]?) (by kernel_rfl) ⟨cell_of_block (show w8.drew.heap[X]? = _ from X8.out), cell_of_block (show w8.drew.heap[Y]? = _ from Y8.out)⟩ (fun hHeld => ?_)
          refine wpAnyH_take (i := 0) (oi := _) (v := ?_) (by (simp only [List.getElem?_toArray]; rfl)) (by kernel_rfl) (by kernel_rfl) (by kernel_rfl) (by exact fun _ _ _ h => h) (Or.inl ⟨by rfl, ?_⟩) (by assumption) ?_
          rotate_left
          · intro wS hSw
            go_simp
            all_goals first | with_reducible rfl | rw [if_neg (by omega)]
          simp only [Act.put, List.setIfInBounds_toArray, List.set]
          refine wpAnyH_take (i := 1) (oi := _) (v := ?_) (by (simp only [List.getElem?_toArray]; rfl)) (by kernel_rfl) (by kernel_rfl) (by kernel_rfl) (by exact fun _ _ _ h => h) (Or.inl ⟨by rfl, ?_⟩) (by assumption) ?_
          rotate_left
          · intro wS hSw
            go_simp
            all_goals first | with_reducible rfl | rw [if_neg (by omega)]
          simp only [Act.put, List.setIfInBounds_toArray, List.set]
          clear hHeld
          obtain ⟨wd, hwd, kwd⟩ : ∃ wd, wd = w8.drew ∧ Below w8.heap.size w8 wd := ⟨_, rfl, Below.drew (Below.refl _ _)⟩
          rw [← hwd]
          clear hwd
          have X0 := Lib.hid (carryN kwd X8.out)
          have Y0 := Lib.hid (carryN kwd Y8.out)
          have R0 := Lib.hid (carryN kwd R8.out)
          have Q0 := Lib.hid (carryN kwd Q8.out)
          have S0 := Lib.hid (S8.out.below kwd)
          have K0 := Lib.hid (below_next K8.out kwd)
          have hne := NE.out
          have cR := cell_of_block R0.out
          have fR := unfrozen_of_block R0.out
          have lR := lt_of_block R0.out
          refine wpAnyH_ready (rs := [2]) (by kernel_rfl) (by simp) ?_
          refine AllReadyH.cons (o := _) (by (simp only [List.getElem?_toArray]; rfl)) (fun K hK => ?_) AllReadyH.nil
          go_simp
          obtain ⟨V1, hV1⟩ : ∃ V, V = (((wd.setCell ⟨w.heap.size, 0, none⟩ (.slice a0 m0 c0)).setCell ⟨w.heap.size, 1, none⟩ (.slice a1 m1 c1)).setCell ⟨w.heap.size, 2, none⟩ (.slice (some ⟨b, off, none⟩) 4 c2)) := ⟨_, rfl⟩
          have x1 := (block_kept3 (w := wd) (G := w.heap.size) (b := X) (by omega) (.slice a0 m0 c0) (.slice a1 m1 c1) (.slice (some ⟨b, off, none⟩) 4 c2)).trans X0.out
          have y1 := (block_kept3 (w := wd) (G := w.heap.size) (b := Y) (by omega) (.slice a0 m0 c0) (.slice a1 m1 c1) (.slice (some ⟨b, off, none⟩) 4 c2)).trans Y0.out
          have q1 := (block_kept3 (w := wd) (G := w.heap.size) (b := w.heap.size + 1) (by omega) (.slice a0 m0 c0) (.slice a1 m1 c1) (.slice (some ⟨b, off, none⟩) 4 c2)).trans Q0.out
          have r1 := block_set3 R0.out (.slice a0 m0 c0) (.slice a1 m1 c1) (.slice (some ⟨b, off, none⟩) 4 c2)
          have s1 := ((S0.out.set (p := ⟨w.heap.size, 0, none⟩) (.inl (by have := HB.out.1; simp only; omega)) (.slice a0 m0 c0)).set (p := ⟨w.heap.size, 1, none⟩) (.inl (by have := HB.out.1; simp only; omega)) (.slice a1 m1 c1)).set (p := ⟨w.heap.size, 2, none⟩) (.inl (by have := HB.out.1; simp only; omega)) (.slice (some ⟨b, off, none⟩) 4 c2)
          have b1 := below_set3 K0.out (Nat.le_refl _) (.slice a0 m0 c0) (.slice a1 m1 c1) (.slice (some ⟨b, off, none⟩) 4 c2)
          rw [← hV1] at x1 y1 q1 r1 s1 b1 ⊢
          clear hV1 cR fR lR
          have Q1 := Lib.hid q1
          have R1 := Lib.hid r1
          have S1 := Lib.hid s1
          have B1 := Lib.hid b1
          refine hK.out _ _ ⟨cell_of_block x1, cell_of_block y1⟩ (fun hHeld => ?_)
          clear hK K hHeld
          try simp only [Act.put, List.setIfInBounds_toArray, List.set]
          have X1 := Lib.hid x1
          have Y1 := Lib.hid y1
          clear x1 y1 q1 r1 s1 b1 kwd
          have cQ := cell_of_block Q1.out
          have fQ := unfrozen_of_block Q1.out
          have lQ := lt_of_block Q1.out
          refine wpAnyH_ready (rs := [3]) (by kernel_rfl) (by simp) ?_
          refine AllReadyH.cons (o := _) (by (simp only [List.getElem?_toArray]; rfl)) (fun K hK => ?_) AllReadyH.nil
          go_simp
          obtain ⟨V2, hV2⟩ : ∃ V, V = (((((V1.setCell ⟨w.heap.size + 1, 0, none⟩ (.int .i64 c)).setCell ⟨w.heap.size + 1, 1, none⟩ (.int .i64 n8)).setCell ⟨w.heap.size + 1, 2, none⟩ (.int .i64 oo)).setCell ⟨w.heap.size + 1, 3, none⟩ (.int .i64 x)).setCell ⟨w.heap.size + 1, 4, none⟩ (.int .i64 y)) := ⟨_, rfl⟩
          have x2 := (block_keptQ (w := V1) (G := w.heap.size + 1) (k := X) (by omega) (.int .i64 c) (.int .i64 n8) (.int .i64 oo) (.int .i64 x) (.int .i64 y)).trans X1.out
          have y2 := (block_keptQ (w := V1) (G := w.heap.size + 1) (k := Y) (by omega) (.int .i64 c) (.int .i64 n8) (.int .i64 oo) (.int .i64 x) (.int .i64 y)).trans Y1.out
          have r2 := (block_keptQ (w := V1) (G := w.heap.size + 1) (k := w.heap.size) (by omega) (.int .i64 c) (.int .i64 n8) (.int .i64 oo) (.int .i64 x) (.int .i64 y)).trans R1.out
          have q2 := block_setQ Q1.out (.int .i64 c) (.int .i64 n8) (.int .i64 oo) (.int .i64 x) (.int .i64 y)
          have hqB : w.heap.size + 1 < w1.heap.size := HB.out.1
          have s2 := ((((S1.out.set (p := ⟨w.heap.size + 1, 0, none⟩) (.inl hqB) (.int .i64 c)).set (p := ⟨w.heap.size + 1, 1, none⟩) (.inl hqB) (.int .i64 n8)).set (p := ⟨w.heap.size + 1, 2, none⟩) (.inl hqB) (.int .i64 oo)).set (p := ⟨w.heap.size + 1, 3, none⟩) (.inl hqB) (.int .i64 x)).set (p := ⟨w.heap.size + 1, 4, none⟩) (.inl hqB) (.int .i64 y)
          have b2 := below_setQ B1.out (Nat.le_succ _) (.int .i64 c) (.int .i64 n8) (.int .i64 oo) (.int .i64 x) (.int .i64 y)
          rw [← hV2] at x2 y2 r2 q2 s2 b2 ⊢
          clear hV2 cQ fQ lQ hqB
          refine hK.out _ _ ⟨cell_of_block x2, cell_of_block y2⟩ (fun hHeld => ?_)
          clear hK K hHeld
          try simp only [Act.put, List.setIfInBounds_toArray, List.set]
          refine wpAnyH_done (by kernel_rfl) ?_ _
          have S9 := Lib.hid s2
          have B9 := Lib.hid b2
          have cR := cell_of_block r2
          have cQ := cell_of_block q2
          clear x2 y2 r2 q2 s2 b2 hne
          go_wp2_with fail
          refine bodyPost_ret (v := .tuple #[.agg #[.slice a0 m0 c0, .slice a1 m1 c1, .slice (some ⟨b, off, none⟩) 4 c2], .agg #[.int .i64 c, .int .i64 n8, .int .i64 oo, .int .i64 x, .int .i64 y]]) (by simp [results, Try.results42, go_sem, cR, cQ]) rfl ?_
          obtain ⟨t0, t1, t2⟩ := HK.out V2 S9.out
          refine ⟨zz, ⟨c, n8, oo, x, y⟩, a0, a1, some ⟨b, off, none⟩, c0, c1, c2, by rw [← M0.out, ← M1.out, ← M2.out], ?_⟩
          rw [← M0.out, ← M1.out, ← M2.out]
          exact ⟨LN.out.1, LN.out.2.1, LN.out.2.2, t0, t1, t2, B9.out⟩
        · skip
          go_wp2_with fail
          refine wp_region_held_drew (S := fun w' => (∀ i, w'.cell? ⟨X, i, none⟩ = (#[.slice a0 m0 c0, .slice a1 m1 c1, .slice (some ⟨b, off, none⟩) 4 c2] : Array Value)[i]?) ∧ ∀ i, w'.cell? ⟨Y, i, none⟩ = (#[.int .i64 c, .int .i64 n, .int .i64 oo, .int .i64 x, .int .i64 y] : Array Value)[i]?) (by kernel_rfl) ⟨cell_of_block (show w7.drew.heap[X]? = _ from X7.out), cell_of_block (show w7.drew.heap[Y]? = _ from Y7.out)⟩ (fun hHeld => ?_)
          refine wpAnyH_take (i := 0) (oi := _) (v := ?_) (by (simp only [List.getElem?_toArray]; rfl)) (by kernel_rfl) (by kernel_rfl) (by kernel_rfl) (by exact fun _ _ _ h => h) (Or.inl ⟨by rfl, ?_⟩) (by assumption) ?_
          rotate_left
          · intro wS hSw
            go_simp
            all_goals first | with_reducible rfl | rw [if_neg (by omega)]
          simp only [Act.put, List.setIfInBounds_toArray, List.set]
          refine wpAnyH_take (i := 1) (oi := _) (v := ?_) (by (simp only [List.getElem?_toArray]; rfl)) (by kernel_rfl) (by kernel_rfl) (by kernel_rfl) (by exact fun _ _ _ h => h) (Or.inl ⟨by rfl, ?_⟩) (by assumption) ?_
          rotate_left
          · intro wS hSw
            go_simp
            all_goals first | with_reducible rfl | rw [if_neg (by omega)]
          simp only [Act.put, List.setIfInBounds_toArray, List.set]
          clear hHeld
          obtain ⟨wd, hwd, kwd⟩ : ∃ wd, wd = w7.drew ∧ Below w7.heap.size w7 wd := ⟨_, rfl, Below.drew (Below.refl _ _)⟩
          rw [← hwd]
          clear hwd
          have X0 := Lib.hid (carryN kwd X7.out)
          have Y0 := Lib.hid (carryN kwd Y7.out)
          have R0 := Lib.hid (carryN kwd R7.out)
          have Q0 := Lib.hid (carryN kwd Q7.out)
          have S0 := Lib.hid (S7.out.below kwd)
          have K0 := Lib.hid (below_next K7.out kwd)
          have hne := NE.out
          have cR := cell_of_block R0.out
          have fR := unfrozen_of_block R0.out
          have lR := lt_of_block R0.out
          refine wpAnyH_ready (rs := [2]) (by kernel_rfl) (by simp) ?_
          refine AllReadyH.cons (o := _) (by (simp only [List.getElem?_toArray]; rfl)) (fun K hK => ?_) AllReadyH.nil
          go_simp
          obtain ⟨V1, hV1⟩ : ∃ V, V = (((wd.setCell ⟨w.heap.size, 0, none⟩ (.slice a0 m0 c0)).setCell ⟨w.heap.size, 1, none⟩ (.slice a1 m1 c1)).setCell ⟨w.heap.size, 2, none⟩ (.slice (some ⟨b, off, none⟩) 4 c2)) := ⟨_, rfl⟩
          have x1 := (block_kept3 (w := wd) (G := w.heap.size) (b := X) (by omega) (.slice a0 m0 c0) (.slice a1 m1 c1) (.slice (some ⟨b, off, none⟩) 4 c2)).trans X0.out
          have y1 := (block_kept3 (w := wd) (G := w.heap.size) (b := Y) (by omega) (.slice a0 m0 c0) (.slice a1 m1 c1) (.slice (some ⟨b, off, none⟩) 4 c2)).trans Y0.out
          have q1 := (block_kept3 (w := wd) (G := w.heap.size) (b := w.heap.size + 1) (by omega) (.slice a0 m0 c0) (.slice a1 m1 c1) (.slice (some ⟨b, off, none⟩) 4 c2)).trans Q0.out
          have r1 := block_set3 R0.out (.slice a0 m0 c0) (.slice a1 m1 c1) (.slice (some ⟨b, off, none⟩) 4 c2)
          have s1 := ((S0.out.set (p := ⟨w.heap.size, 0, none⟩) (.inl (by have := HB.out.1; simp only; omega)) (.slice a0 m0 c0)).set (p := ⟨w.heap.size, 1, none⟩) (.inl (by have := HB.out.1; simp only; omega)) (.slice a1 m1 c1)).set (p := ⟨w.heap.size, 2, none⟩) (.inl (by have := HB.out.1; simp only; omega)) (.slice (some ⟨b, off, none⟩) 4 c2)
          have b1 := below_set3 K0.out (Nat.le_refl _) (.slice a0 m0 c0) (.slice a1 m1 c1) (.slice (some ⟨b, off, none⟩) 4 c2)
          rw [← hV1] at x1 y1 q1 r1 s1 b1 ⊢
          clear hV1 cR fR lR
          have Q1 := Lib.hid q1
          have R1 := Lib.hid r1
          have S1 := Lib.hid s1
          have B1 := Lib.hid b1
          refine hK.out _ _ ⟨cell_of_block x1, cell_of_block y1⟩ (fun hHeld => ?_)
          clear hK K hHeld
          try simp only [Act.put, List.setIfInBounds_toArray, List.set]
          have X1 := Lib.hid x1
          have Y1 := Lib.hid y1
          clear x1 y1 q1 r1 s1 b1 kwd
          have cQ := cell_of_block Q1.out
          have fQ := unfrozen_of_block Q1.out
          have lQ := lt_of_block Q1.out
          refine wpAnyH_ready (rs := [3]) (by kernel_rfl) (by simp) ?_
          refine AllReadyH.cons (o := _) (by (simp only [List.getElem?_toArray]; rfl)) (fun K hK => ?_) AllReadyH.nil
          go_simp
          obtain ⟨V2, hV2⟩ : ∃ V, V = (((((V1.setCell ⟨w.heap.size + 1, 0, none⟩ (.int .i64 c)).setCell ⟨w.heap.size + 1, 1, none⟩ (.int .i64 n)).setCell ⟨w.heap.size + 1, 2, none⟩ (.int .i64 oo)).setCell ⟨w.heap.size + 1, 3, none⟩ (.int .i64 x)).setCell ⟨w.heap.size + 1, 4, none⟩ (.int .i64 y)) := ⟨_, rfl⟩
          have x2 := (block_keptQ (w := V1) (G := w.heap.size + 1) (k := X) (by omega) (.int .i64 c) (.int .i64 n) (.int .i64 oo) (.int .i64 x) (.int .i64 y)).trans X1.out
          have y2 := (block_keptQ (w := V1) (G := w.heap.size + 1) (k := Y) (by omega) (.int .i64 c) (.int .i64 n) (.int .i64 oo) (.int .i64 x) (.int .i64 y)).trans Y1.out
          have r2 := (block_keptQ (w := V1) (G := w.heap.size + 1) (k := w.heap.size) (by omega) (.int .i64 c) (.int .i64 n) (.int .i64 oo) (.int .i64 x) (.int .i64 y)).trans R1.out
          have q2 := block_setQ Q1.out (.int .i64 c) (.int .i64 n) (.int .i64 oo) (.int .i64 x) (.int .i64 y)
          have hqB : w.heap.size + 1 < w1.heap.size := HB.out.1
          have s2 := ((((S1.out.set (p := ⟨w.heap.size + 1, 0, none⟩) (.inl hqB) (.int .i64 c)).set (p := ⟨w.heap.size + 1, 1, none⟩) (.inl hqB) (.int .i64 n)).set (p := ⟨w.heap.size + 1, 2, none⟩) (.inl hqB) (.int .i64 oo)).set (p := ⟨w.heap.size + 1, 3, none⟩) (.inl hqB) (.int .i64 x)).set (p := ⟨w.heap.size + 1, 4, none⟩) (.inl hqB) (.int .i64 y)
          have b2 := below_setQ B1.out (Nat.le_succ _) (.int .i64 c) (.int .i64 n) (.int .i64 oo) (.int .i64 x) (.int .i64 y)
          rw [← hV2] at x2 y2 r2 q2 s2 b2 ⊢
          clear hV2 cQ fQ lQ hqB
          refine hK.out _ _ ⟨cell_of_block x2, cell_of_block y2⟩ (fun hHeld => ?_)
          clear hK K hHeld
          try simp only [Act.put, List.setIfInBounds_toArray, List.set]
          refine wpAnyH_done (by kernel_rfl) ?_ _
          have S9 := Lib.hid s2
          have B9 := Lib.hid b2
          have cR := cell_of_block r2
          have cQ := cell_of_block q2
          clear x2 y2 r2 q2 s2 b2 hne
          go_wp2_with fail
          refine bodyPost_ret (v := .tuple #[.agg #[.slice a0 m0 c0, .slice a1 m1 c1, .slice (some ⟨b, off, none⟩) 4 c2], .agg #[.int .i64 c, .int .i64 n, .int .i64 oo, .int .i64 x, .int .i64 y]]) (by simp [results, Try.results42, go_sem, cR, cQ]) rfl ?_
          obtain ⟨t0, t1, t2⟩ := HK.out V2 S9.out
          refine ⟨zz, ⟨c, n, oo, x, y⟩, a0, a1, some ⟨b, off, none⟩, c0, c1, c2, by rw [← M0.out, ← M1.out, ← M2.out], ?_⟩
          rw [← M0.out, ← M1.out, ← M2.out]
          exact ⟨LN.out.1, LN.out.2.1, LN.out.2.2, t0, t1, t2, B9.out⟩
      · have n4 : ((m2 : Int) == 4) = false := by simp; omega
        have cX := cell_of_block X7.out
        have lX := lt_of_block X7.out
        have cY := cell_of_block Y7.out
        have lY := lt_of_block Y7.out
        go_wp2_with fail
        refine wp_region_held_drew (S := fun w' => (∀ i, w'.cell? ⟨X, i, none⟩ = (#[.slice a0 m0 c0, .slice a1 m1 c1, .slice a2 m2 c2] : Array Value)[i]?) ∧ ∀ i, w'.cell? ⟨Y, i, none⟩ = (#[.int .i64 c, .int .i64 n, .int .i64 oo, .int .i64 x, .int .i64 y] : Array Value)[i]?) (by kernel_rfl) ⟨cell_of_block (show w7.drew.heap[X]? = _ from X7.out), cell_of_block (show w7.drew.heap[Y]? = _ from Y7.out)⟩ (fun hHeld => ?_)
        refine wpAnyH_take (i := 0) (oi := _) (v := ?_) (by (simp only [List.getElem?_toArray]; rfl)) (by kernel_rfl) (by kernel_rfl) (by kernel_rfl) (by exact fun _ _ _ h => h) (Or.inl ⟨by rfl, ?_⟩) (by assumption) ?_
        rotate_left
        · intro wS hSw
          go_simp
          all_goals first | with_reducible rfl | rw [if_neg (by omega)]
        simp only [Act.put, List.setIfInBounds_toArray, List.set]
        refine wpAnyH_take (i := 1) (oi := _) (v := ?_) (by (simp only [List.getElem?_toArray]; rfl)) (by kernel_rfl) (by kernel_rfl) (by kernel_rfl) (by exact fun _ _ _ h => h) (Or.inl ⟨by rfl, ?_⟩) (by assumption) ?_
        rotate_left
        · intro wS hSw
          go_simp
          all_goals first | with_reducible rfl | rw [if_neg (by omega)]
        simp only [Act.put, List.setIfInBounds_toArray, List.set]
        clear hHeld
        obtain ⟨wd, hwd, kwd⟩ : ∃ wd, wd = w7.drew ∧ Below w7.heap.size w7 wd := ⟨_, rfl, Below.drew (Below.refl _ _)⟩
        rw [← hwd]
        clear hwd
        have X0 := Lib.hid (carryN kwd X7.out)
        have Y0 := Lib.hid (carryN kwd Y7.out)
        have R0 := Lib.hid (carryN kwd R7.out)
        have Q0 := Lib.hid (carryN kwd Q7.out)
        have S0 := Lib.hid (S7.out.below kwd)
        have K0 := Lib.hid (below_next K7.out kwd)
        have hne := NE.out
        have cR := cell_of_block R0.out
        have fR := unfrozen_of_block R0.out
        have lR := lt_of_block R0.out
        refine wpAnyH_ready (rs := [2]) (by kernel_rfl) (by simp) ?_
        refine AllReadyH.cons (o := _) (by (simp only [List.getElem?_toArray]; rfl)) (fun K hK => ?_) AllReadyH.nil
        go_simp
        obtain ⟨V1, hV1⟩ : ∃ V, V = (((wd.setCell ⟨w.heap.size, 0, none⟩ (.slice a0 m0 c0)).setCell ⟨w.heap.size, 1, none⟩ (.slice a1 m1 c1)).setCell ⟨w.heap.size, 2, none⟩ (.slice a2 m2 c2)) := ⟨_, rfl⟩
        have x1 := (block_kept3 (w := wd) (G := w.heap.size) (b := X) (by omega) (.slice a0 m0 c0) (.slice a1 m1 c1) (.slice a2 m2 c2)).trans X0.out
        have y1 := (block_kept3 (w := wd) (G := w.heap.size) (b := Y) (by omega) (.slice a0 m0 c0) (.slice a1 m1 c1) (.slice a2 m2 c2)).trans Y0.out
        have q1 := (block_kept3 (w := wd) (G := w.heap.size) (b := w.heap.size + 1) (by omega) (.slice a0 m0 c0) (.slice a1 m1 c1) (.slice a2 m2 c2)).trans Q0.out
        have r1 := block_set3 R0.out (.slice a0 m0 c0) (.slice a1 m1 c1) (.slice a2 m2 c2)
        have s1 := ((S0.out.set (p := ⟨w.heap.size, 0, none⟩) (.inl (by have := HB.out.1; simp only; omega)) (.slice a0 m0 c0)).set (p := ⟨w.heap.size, 1, none⟩) (.inl (by have := HB.out.1; simp only; omega)) (.slice a1 m1 c1)).set (p := ⟨w.heap.size, 2, none⟩) (.inl (by have := HB.out.1; simp only; omega)) (.slice a2 m2 c2)
        have b1 := below_set3 K0.out (Nat.le_refl _) (.slice a0 m0 c0) (.slice a1 m1 c1) (.slice a2 m2 c2)
        rw [← hV1] at x1 y1 q1 r1 s1 b1 ⊢
        clear hV1 cR fR lR
        have Q1 := Lib.hid q1
        have R1 := Lib.hid r1
        have S1 := Lib.hid s1
        have B1 := Lib.hid b1
        refine hK.out _ _ ⟨cell_of_block x1, cell_of_block y1⟩ (fun hHeld => ?_)
        clear hK K hHeld
        try simp only [Act.put, List.setIfInBounds_toArray, List.set]
        have X1 := Lib.hid x1
        have Y1 := Lib.hid y1
        clear x1 y1 q1 r1 s1 b1 kwd
        have cQ := cell_of_block Q1.out
        have fQ := unfrozen_of_block Q1.out
        have lQ := lt_of_block Q1.out
        refine wpAnyH_ready (rs := [3]) (by kernel_rfl) (by simp) ?_
        refine AllReadyH.cons (o := _) (by (simp only [List.getElem?_toArray]; rfl)) (fun K hK => ?_) AllReadyH.nil
        go_simp
        obtain ⟨V2, hV2⟩ : ∃ V, V = (((((V1.setCell ⟨w.heap.size + 1, 0, none⟩ (.int .i64 c)).setCell ⟨w.heap.size + 1, 1, none⟩ (.int .i64 n)).setCell ⟨w.heap.size + 1, 2, none⟩ (.int .i64 oo)).setCell ⟨w.heap.size + 1, 3, none⟩ (.int .i64 x)).setCell ⟨w.heap.size + 1, 4, none⟩ (.int .i64 y)) := ⟨_, rfl⟩
        have x2 := (block_keptQ (w := V1) (G := w.heap.size + 1) (k := X) (by omega) (.int .i64 c) (.int .i64 n) (.int .i64 oo) (.int .i64 x) (.int .i64 y)).trans X1.out
        have y2 := (block_keptQ (w := V1) (G := w.heap.size + 1) (k := Y) (by omega) (.int .i64 c) (.int .i64 n) (.int .i64 oo) (.int .i64 x) (.int .i64 y)).trans Y1.out
        have r2 := (block_keptQ (w := V1) (G := w.heap.size + 1) (k := w.heap.size) (by omega) (.int .i64 c) (.int .i64 n) (.int .i64 oo) (.int .i64 x) (.int .i64 y)).trans R1.out
        have q2 := block_setQ Q1.out (.int .i64 c) (.int .i64 n) (.int .i64 oo) (.int .i64 x) (.int .i64 y)
        have hqB : w.heap.size + 1 < w1.heap.size := HB.out.1
        have s2 := ((((S1.out.set (p := ⟨w.heap.size + 1, 0, none⟩) (.inl hqB) (.int .i64 c)).set (p := ⟨w.heap.size + 1, 1, none⟩) (.inl hqB) (.int .i64 n)).set (p := ⟨w.heap.size + 1, 2, none⟩) (.inl hqB) (.int .i64 oo)).set (p := ⟨w.heap.size + 1, 3, none⟩) (.inl hqB) (.int .i64 x)).set (p := ⟨w.heap.size + 1, 4, none⟩) (.inl hqB) (.int .i64 y)
        have b2 := below_setQ B1.out (Nat.le_succ _) (.int .i64 c) (.int .i64 n) (.int .i64 oo) (.int .i64 x) (.int .i64 y)
        rw [← hV2] at x2 y2 r2 q2 s2 b2 ⊢
        clear hV2 cQ fQ lQ hqB
        refine hK.out _ _ ⟨cell_of_block x2, cell_of_block y2⟩ (fun hHeld => ?_)
        clear hK K hHeld
        try simp only [Act.put, List.setIfInBounds_toArray, List.set]
        refine wpAnyH_done (by kernel_rfl) ?_ _
        have S9 := Lib.hid s2
        have B9 := Lib.hid b2
        have cR := cell_of_block r2
        have cQ := cell_of_block q2
        clear x2 y2 r2 q2 s2 b2 hne
        go_wp2_with fail
        refine bodyPost_ret (v := .tuple #[.agg #[.slice a0 m0 c0, .slice a1 m1 c1, .slice a2 m2 c2], .agg #[.int .i64 c, .int .i64 n, .int .i64 oo, .int .i64 x, .int .i64 y]]) (by simp [results, Try.results42, go_sem, cR, cQ]) rfl ?_
        obtain ⟨t0, t1, t2⟩ := HK.out V2 S9.out
        refine ⟨zz, ⟨c, n, oo, x, y⟩, a0, a1, a2, c0, c1, c2, by rw [← M0.out, ← M1.out, ← M2.out], ?_⟩
        rw [← M0.out, ← M1.out, ← M2.out]
        exact ⟨LN.out.1, LN.out.2.1, LN.out.2.2, t0, t1, t2, B9.out⟩
  · have hp' : p = 0 := by omega
    subst hp'
    have cX := cell_of_block X6.out
    have lX := lt_of_block X6.out
    have cY := cell_of_block Y6.out
    have lY := lt_of_block Y6.out
    go_wp2_with fail
    refine wp_region_held_drew (S := fun w' => (∀ i, w'.cell? ⟨X, i, none⟩ = (#[.slice a0 m0 c0, .slice a1 m1 c1, .slice a2 m2 c2] : Array Value)[i]?) ∧ ∀ i, w'.cell? ⟨Y, i, none⟩ = (#[.int .i64 c, .int .i64 n, .int .i64 oo, .int .i64 x, .int .i64 y] : Array Value)[i]?) (by kernel_rfl) ⟨cell_of_block (show w6.drew.heap[X]? = _ from X6.out), cell_of_block (show w6.drew.heap[Y]? = _ from Y6.out)⟩ (fun hHeld => ?_)
    refine wpAnyH_take (i := 0) (oi := _) (v := ?_) (by (simp only [List.getElem?_toArray]; rfl)) (by kernel_rfl) (by kernel_rfl) (by kernel_rfl) (by exact fun _ _ _ h => h) (Or.inl ⟨by rfl, ?_⟩) (by assumption) ?_
    rotate_left
    · intro wS hSw
      go_simp
      all_goals first | with_reducible rfl | rw [if_neg (by omega)]
    simp only [Act.put, List.setIfInBounds_toArray, List.set]
    refine wpAnyH_take (i := 1) (oi := _) (v := ?_) (by (simp only [List.getElem?_toArray]; rfl)) (by kernel_rfl) (by kernel_rfl) (by kernel_rfl) (by exact fun _ _ _ h => h) (Or.inl ⟨by rfl, ?_⟩) (by assumption) ?_
    rotate_left
    · intro wS hSw
      go_simp
      all_goals first | with_reducible rfl | rw [if_neg (by omega)]
    simp only [Act.put, List.setIfInBounds_toArray, List.set]
    clear hHeld
    obtain ⟨wd, hwd, kwd⟩ : ∃ wd, wd = w6.drew ∧ Below w6.heap.size w6 wd := ⟨_, rfl, Below.drew (Below.refl _ _)⟩
    rw [← hwd]
    clear hwd
    have X0 := Lib.hid (carryN kwd X6.out)
    have Y0 := Lib.hid (carryN kwd Y6.out)
    have R0 := Lib.hid (carryN kwd R6.out)
    have Q0 := Lib.hid (carryN kwd Q6.out)
    have S0 := Lib.hid (S6.out.below kwd)
    have K0 := Lib.hid (below_next K6.out kwd)
    have hne := NE.out
    have cR := cell_of_block R0.out
    have fR := unfrozen_of_block R0.out
    have lR := lt_of_block R0.out
    refine wpAnyH_ready (rs := [2]) (by kernel_rfl) (by simp) ?_
    refine AllReadyH.cons (o := _) (by (simp only [List.getElem?_toArray]; rfl)) (fun K hK => ?_) AllReadyH.nil
    go_simp
    obtain ⟨V1, hV1⟩ : ∃ V, V = (((wd.setCell ⟨w.heap.size, 0, none⟩ (.slice a0 m0 c0)).setCell ⟨w.heap.size, 1, none⟩ (.slice a1 m1 c1)).setCell ⟨w.heap.size, 2, none⟩ (.slice a2 m2 c2)) := ⟨_, rfl⟩
    have x1 := (block_kept3 (w := wd) (G := w.heap.size) (b := X) (by omega) (.slice a0 m0 c0) (.slice a1 m1 c1) (.slice a2 m2 c2)).trans X0.out
    have y1 := (block_kept3 (w := wd) (G := w.heap.size) (b := Y) (by omega) (.slice a0 m0 c0) (.slice a1 m1 c1) (.slice a2 m2 c2)).trans Y0.out
    have q1 := (block_kept3 (w := wd) (G := w.heap.size) (b := w.heap.size + 1) (by omega) (.slice a0 m0 c0) (.slice a1 m1 c1) (.slice a2 m2 c2)).trans Q0.out
    have r1 := block_set3 R0.out (.slice a0 m0 c0) (.slice a1 m1 c1) (.slice a2 m2 c2)
    have s1 := ((S0.out.set (p := ⟨w.heap.size, 0, none⟩) (.inl (by have := HB.out.1; simp only; omega)) (.slice a0 m0 c0)).set (p := ⟨w.heap.size, 1, none⟩) (.inl (by have := HB.out.1; simp only; omega)) (.slice a1 m1 c1)).set (p := ⟨w.heap.size, 2, none⟩) (.inl (by have := HB.out.1; simp only; omega)) (.slice a2 m2 c2)
    have b1 := below_set3 K0.out (Nat.le_refl _) (.slice a0 m0 c0) (.slice a1 m1 c1) (.slice a2 m2 c2)
    rw [← hV1] at x1 y1 q1 r1 s1 b1 ⊢
    clear hV1 cR fR lR
    have Q1 := Lib.hid q1
    have R1 := Lib.hid r1
    have S1 := Lib.hid s1
    have B1 := Lib.hid b1
    refine hK.out _ _ ⟨cell_of_block x1, cell_of_block y1⟩ (fun hHeld => ?_)
    clear hK K hHeld
    try simp only [Act.put, List.setIfInBounds_toArray, List.set]
    have X1 := Lib.hid x1
    have Y1 := Lib.hid y1
    clear x1 y1 q1 r1 s1 b1 kwd
    have cQ := cell_of_block Q1.out
    have fQ := unfrozen_of_block Q1.out
    have lQ := lt_of_block Q1.out
    refine wpAnyH_ready (rs := [3]) (by kernel_rfl) (by simp) ?_
    refine AllReadyH.cons (o := _) (by (simp only [List.getElem?_toArray]; rfl)) (fun K hK => ?_) AllReadyH.nil
    go_simp
    obtain ⟨V2, hV2⟩ : ∃ V, V = (((((V1.setCell ⟨w.heap.size + 1, 0, none⟩ (.int .i64 c)).setCell ⟨w.heap.size + 1, 1, none⟩ (.int .i64 n)).setCell ⟨w.heap.size + 1, 2, none⟩ (.int .i64 oo)).setCell ⟨w.heap.size + 1, 3, none⟩ (.int .i64 x)).setCell ⟨w.heap.size + 1, 4, none⟩ (.int .i64 y)) := ⟨_, rfl⟩
    have x2 := (block_keptQ (w := V1) (G := w.heap.size + 1) (k := X) (by omega) (.int .i64 c) (.int .i64 n) (.int .i64 oo) (.int .i64 x) (.int .i64 y)).trans X1.out
    have y2 := (block_keptQ (w := V1) (G := w.heap.size + 1) (k := Y) (by omega) (.int .i64 c) (.int .i64 n) (.int .i64 oo) (.int .i64 x) (.int .i64 y)).trans Y1.out
    have r2 := (block_keptQ (w := V1) (G := w.heap.size + 1) (k := w.heap.size) (by omega) (.int .i64 c) (.int .i64 n) (.int .i64 oo) (.int .i64 x) (.int .i64 y)).trans R1.out
    have q2 := block_setQ Q1.out (.int .i64 c) (.int .i64 n) (.int .i64 oo) (.int .i64 x) (.int .i64 y)
    have hqB : w.heap.size + 1 < w1.heap.size := HB.out.1
    have s2 := ((((S1.out.set (p := ⟨w.heap.size + 1, 0, none⟩) (.inl hqB) (.int .i64 c)).set (p := ⟨w.heap.size + 1, 1, none⟩) (.inl hqB) (.int .i64 n)).set (p := ⟨w.heap.size + 1, 2, none⟩) (.inl hqB) (.int .i64 oo)).set (p := ⟨w.heap.size + 1, 3, none⟩) (.inl hqB) (.int .i64 x)).set (p := ⟨w.heap.size + 1, 4, none⟩) (.inl hqB) (.int .i64 y)
    have b2 := below_setQ B1.out (Nat.le_succ _) (.int .i64 c) (.int .i64 n) (.int .i64 oo) (.int .i64 x) (.int .i64 y)
    rw [← hV2] at x2 y2 r2 q2 s2 b2 ⊢
    clear hV2 cQ fQ lQ hqB
    refine hK.out _ _ ⟨cell_of_block x2, cell_of_block y2⟩ (fun hHeld => ?_)
    clear hK K hHeld
    try simp only [Act.put, List.setIfInBounds_toArray, List.set]
    refine wpAnyH_done (by kernel_rfl) ?_ _
    have S9 := Lib.hid s2
    have B9 := Lib.hid b2
    have cR := cell_of_block r2
    have cQ := cell_of_block q2
    clear x2 y2 r2 q2 s2 b2 hne
    go_wp2_with fail
    refine bodyPost_ret (v := .tuple #[.agg #[.slice a0 m0 c0, .slice a1 m1 c1, .slice a2 m2 c2], .agg #[.int .i64 c, .int .i64 n, .int .i64 oo, .int .i64 x, .int .i64 y]]) (by simp [results, Try.results42, go_sem, cR, cQ]) rfl ?_
    obtain ⟨t0, t1, t2⟩ := HK.out V2 S9.out
    refine ⟨zz, ⟨c, n, oo, x, y⟩, a0, a1, a2, c0, c1, c2, by rw [← M0.out, ← M1.out, ← M2.out], ?_⟩
    rw [← M0.out, ← M1.out, ← M2.out]
    exact ⟨LN.out.1, LN.out.2.1, LN.out.2.2, t0, t1, t2, B9.out⟩
end Go.Proofs.Ytofedboeggdkaaa

/-! GameDo, the reference's and the program's, as a law's walk asks them; condition: small sizes. -/
namespace Go.Proofs.Ytofedboeggdkaaa
open Go.RowKit Go.Joins

def doR (z : Gm) (r : Rq) : Gm × Int := gameDo z r (good r)
theorem doR_len (z : Gm) (r : Rq) (hs : z.es.length + z.fl.length + z.la.length ≤ 1048576) : (doR z r).1.es.length ≤ 1048576 ∧ (doR z r).1.fl.length ≤ 1048576 ∧ (doR z r).1.la.length ≤ 1048576 := by
  unfold doR
  by_cases hb : gameB z = true ∧ good r = true
  · rw [gameDo_yes hb.1 hb.2]
    have hk := doG_ok hb.1 (good_or hb.2)
    have h1 := game_lensG hk
    rw [gameB_iff] at hk
    have h2 := ents_le4 hk.1
    omega
  · have hb' : gameB z = false ∨ good r = false := by
      cases h1 : gameB z with
      | false => exact .inl rfl
      | true =>
        cases h2 : good r with
        | false => exact .inr rfl
        | true => exact absurd ⟨h1, h2⟩ hb
    rw [gameDo_bad hb']
    simp
theorem GameDo_c (z : Gm) (r : Rq) (a0 a1 a2 : Option Addr) (c0 c1 c2 : Nat) (w : World) (h0 : IsSl w (.slice a0 z.es.length c0) 5 Rq.cs z.es) (h1 : IsSl w (.slice a1 z.fl.length c1) 1 intR z.fl) (h2 : IsSl w (.slice a2 z.la.length c2) 1 intR z.la)
    (hs : z.es.length + z.fl.length + z.la.length ≤ 1048576) :
    Calls Try.prog 29 #[.agg #[.slice a0 z.es.length c0, .slice a1 z.fl.length c1, .slice a2 z.la.length c2], .agg #[.int .i64 r.c, .int .i64 r.n, .int .i64 r.o, .int .i64 r.x, .int .i64 r.y]] w fun e w' => ∃ b0 b1 b2, e = .returned (.tuple #[.agg #[.slice b0 (doR z r).1.es.length (doR z r).1.es.length, .slice b1 (doR z r).1.fl.length (doR z r).1.fl.length, .slice b2 (doR z r).1.la.length (doR z r).1.la.length], .int .i64 (doR z r).2]) ∧
      Row w' w.heap.size 92 b0 (doR z r).1.es.length 5 Rq.cs (doR z r).1.es ∧ Row w' w.heap.size 3 b1 (doR z r).1.fl.length 1 intR (doR z r).1.fl ∧ Row w' w.heap.size 3 b2 (doR z r).1.la.length 1 intR (doR z r).1.la ∧
      (∀ g, rowBlk b0 (doR z r).1.es.length = some g → rowBlk b1 (doR z r).1.fl.length ≠ some g) ∧ (∀ g, rowBlk b0 (doR z r).1.es.length = some g → rowBlk b2 (doR z r).1.la.length ≠ some g) ∧ (∀ g, rowBlk b1 (doR z r).1.fl.length = some g → rowBlk b2 (doR z r).1.la.length ≠ some g) ∧ Below w.heap.size w w' :=
  (GameDoF_c z r a0 a1 a2 c0 c1 c2 w h0 h1 h2 hs).mono fun _ _ ⟨b0, b1, b2, he, o, k⟩ => ⟨b0, b1, b2, he, o.e, o.f, o.l, o.ef, o.el, o.fl, k⟩

set_option maxRecDepth 100000 in
set_option maxHeartbeats 8000000 in
theorem sGameDoG_c (z : Gm) (r : Rq) (a0 a1 a2 : Option Addr) (c0 c1 c2 : Nat) (w : World) (h0 : IsSl w (.slice a0 z.es.length c0) 5 Rq.cs z.es) (h1 : IsSl w (.slice a1 z.fl.length c1) 1 intR z.fl) (h2 : IsSl w (.slice a2 z.la.length c2) 1 intR z.la)
    (hs : z.es.length + z.fl.length + z.la.length ≤ 1048576) :
    Calls Try.prog 43 #[.agg #[.slice a0 z.es.length c0, .slice a1 z.fl.length c1, .slice a2 z.la.length c2], .agg #[.int .i64 r.c, .int .i64 r.n, .int .i64 r.o, .int .i64 r.x, .int .i64 r.y]] w (RetG w.heap.size (doR z r).1 (doR z r).2 w) := by
  have H0 := Lib.hid h0
  have H1 := Lib.hid h1
  have H2 := Lib.hid h2
  have HS := Lib.hid hs
  have hgr : good r = (noneB r.c r.n r.o r.x r.y || okB r.c r.n r.o r.x r.y) := rfl
  have HGR := Lib.hid hgr
  obtain ⟨m0, hm0⟩ : ∃ m, m = z.es.length := ⟨_, rfl⟩
  obtain ⟨m1, hm1⟩ : ∃ m, m = z.fl.length := ⟨_, rfl⟩
  obtain ⟨m2, hm2⟩ : ∃ m, m = z.la.length := ⟨_, rfl⟩
  have HM0 := Lib.hid hm0
  have HM1 := Lib.hid hm1
  have HM2 := Lib.hid hm2
  have CO := Lib.hid (fun V (k : Below w.heap.size w V) => l2Ok_c z a0 a1 a2 c0 c1 c2 V (h0.below k) (h1.below k) (h2.below k) hs)
  rw [← hm0] at H0 CO ⊢
  rw [← hm1] at H1 CO ⊢
  rw [← hm2] at H2 CO ⊢
  have hs' : m0 ≤ 1048576 ∧ m1 ≤ 1048576 ∧ m2 ≤ 1048576 := by omega
  clear h0 h1 h2 hs hm0 hm1 hm2 hgr
  go_enter Try.func43, Try.ntmps43
  go_upto_region 1 with fail
  obtain ⟨W, hW, sW, aW, qW, bW, kW⟩ := blocks3 w (.cells #[.slice a0 m0 c0, .slice a1 m1 c1, .slice a2 m2 c2] 46) (.cells #[.int .i64 r.c, .int .i64 r.n, .int .i64 r.o, .int .i64 r.x, .int .i64 r.y] 34) (.cells #[.slice none 0 0, .slice none 0 0, .slice none 0 0] 46)
  rw [← hW]
  clear hW sW
  have cA := cell_of_block aW
  go_wp2_with fail
  refine (CO.out W kW).mono ?_
  rintro e X ⟨rfl, k1⟩
  replace aW := carryN k1 aW
  replace bW := carryN k1 bW
  replace qW := carryN k1 qW
  have KX := Lib.hid (below_next kW k1)
  clear cA k1 kW
  cases hg : gameB z with
  | false =>
    have cB := cell_of_block bW
    have fB := unfrozen_of_block bW
    have lB := lt_of_block bW
    have HD := Lib.hid (show doR z r = (⟨[], [], []⟩, 1) from gameDo_bad (.inl hg))
    clear hg
    go_wp2_with fail
    refine bodyPost_ret (v := .tuple #[.agg #[.slice none 0 0, .slice none 0 0, .slice none 0 0], .int .i64 1]) (by simp [results, Try.results43, go_sem, cB]) rfl ?_
    rw [HD.out]
    have KX' := KX.out
    exact ⟨_, rfl, (own3_nil _ _).gm, (by repeat' (first | with_reducible exact Below.refl _ _ | with_reducible assumption | with_reducible refine Below.alloc ?_ ?_ _ | with_reducible refine Below.drew ?_ | with_reducible refine Below.setCell ?_ ?_ _ | omega | (simp; omega) | (simp; done)))⟩
  | true =>
    have HG := Lib.hid hg
    clear hg
    have cQ := cell_of_block qW
    go_wp2_with fail
    refine (l1Ok_c r.c r.n r.o r.x r.y X).mono ?_
    rintro e Y ⟨rfl, k2⟩
    replace aW := carryN k2 aW
    replace bW := carryN k2 bW
    replace qW := carryN k2 qW
    replace KX := Lib.hid (below_next KX.out k2)
    clear cQ k2
    cases hok : okB r.c r.n r.o r.x r.y with
    | true =>
      have hgood : good r = true := by rw [HGR.out, hok, Bool.or_true]
      have HD := Lib.hid (show doR z r = doG z r from gameDo_yes HG.out hgood)
      have HGD := Lib.hid hgood
      clear hok hgood
      have cA := cell_of_block aW
      have cQ := cell_of_block qW
      go_wp2_with fail
      have hWs : w.heap.size + 2 < Y.heap.size := lt_of_block bW
      have HB2 := Lib.hid bW
      refine wp_region_held_drew (S := fun w' => ((∀ b o, b < w.heap.size + 2 → (w').cell? ⟨b, o, none⟩ = (Y).cell? ⟨b, o, none⟩) ∧ Below (w.heap.size + 2) (Y) (w'))) (by kernel_rfl) (KeptB.drew (KeptB.refl _ _)) (fun hHeld => ?_)
      refine wpAnyH_take (i := 0) (oi := _) (v := ?_) (by (simp only [List.getElem?_toArray]; rfl)) (by kernel_rfl) (by kernel_rfl) (by kernel_rfl) (by exact fun _ _ _ h => h) (Or.inl ⟨by rfl, ?_⟩) (by assumption) ?_
      rotate_left
      · intro wS hSw
        go_simp
        all_goals first | with_reducible rfl | rw [if_neg (by omega)]
      simp only [Act.put, List.setIfInBounds_toArray, List.set]
      refine wpAnyH_take (i := 2) (oi := _) (v := ?_) (by (simp only [List.getElem?_toArray]; rfl)) (by kernel_rfl) (by kernel_rfl) (by kernel_rfl) (by exact fun _ _ _ h => h) (Or.inl ⟨by rfl, ?_⟩) (by assumption) ?_
      rotate_left
      · intro wS hSw
        go_simp
        all_goals first | with_reducible rfl | rw [if_neg (by omega)]
      simp only [Act.put, List.setIfInBounds_toArray, List.set]
      have k0 := Lib.hid (KeptB.drew (KeptB.refl Y.heap.size Y))
      clear hHeld cA cQ aW bW qW
      refine wpAnyH_ready (rs := [1]) (by kernel_rfl) (by simp) ?_
      refine AllReadyH.cons (o := _) (by (simp only [List.getElem?_toArray]; rfl)) (fun K hK => ?_) AllReadyH.nil
      go_simp
      refine (l2Copy_c z a0 a1 a2 m0 m1 m2 c0 c1 c2 _ (H0.out.below (KX.out.trans (k0.out.2.mono KX.out.size))) (H1.out.below (KX.out.trans (k0.out.2.mono KX.out.size))) (H2.out.below (KX.out.trans (k0.out.2.mono KX.out.size))) (by omega) (by omega) (by omega)).mono ?_
      rintro e u1 ⟨v1, rfl, ov1, kk⟩
      obtain ⟨b0, d0, b1, d1, b2, d2, hv, o1⟩ := ov1.rows
      rw [hv]
      rw [hv] at ov1
      have OV := Lib.hid ov1
      have t1 := Lib.hid (KeptB.next (Nat.le_refl _) k0.out kk)
      have hsz : Y.drew.heap.size ≤ u1.heap.size := kk.size
      clear kk ov1 o1 hv
      refine hK.out _ _ (KeptB.weak t1.out (by omega)) (fun hHeld => ?_)
      clear hK K
      try simp only [Act.put, List.setIfInBounds_toArray, List.set]
      clear hHeld
      refine wpAnyH_ready (rs := [3]) (by kernel_rfl) (by simp) ?_
      refine AllReadyH.cons (o := _) (by (simp only [List.getElem?_toArray]; rfl)) (fun K hK => ?_) AllReadyH.nil
      go_simp
      refine (l2Do_c (B := Y.drew.heap.size) z r _ u1 OV.out hsz HG.out HGD.out).mono ?_
      rintro e u2 ⟨v2, rfl, ov2, k2⟩
      rw [← HD.out] at ov2 ⊢
      obtain ⟨p, hpp⟩ : ∃ p, p = doR z r := ⟨_, rfl⟩
      have HPP := Lib.hid hpp
      rw [← hpp] at ov2 ⊢
      clear hpp
      obtain ⟨g4, cd⟩ := p
      simp only at ov2 ⊢
      obtain ⟨e0, f0, e1, f1, e2, f2, hv, o2⟩ := ov2.rows
      obtain ⟨n0, hn0⟩ : ∃ m, m = g4.es.length := ⟨_, rfl⟩
      obtain ⟨n1, hn1⟩ : ∃ m, m = g4.fl.length := ⟨_, rfl⟩
      obtain ⟨n2, hn2⟩ : ∃ m, m = g4.la.length := ⟨_, rfl⟩
      rw [← hn0, ← hn1, ← hn2] at hv
      rw [hv]
      have HN0 := Lib.hid hn0
      have HN1 := Lib.hid hn1
      have HN2 := Lib.hid hn2
      have O2 := Lib.hid (o2.low (show w.heap.size ≤ Y.drew.heap.size from KX.out.size))
      have t2 := Lib.hid (KeptB.next (Nat.le_refl _) t1.out k2)
      have bV := carryN t2.out.2 HB2.out
      have K2 := Lib.hid (below_next KX.out t2.out.2)
      clear k2 o2 ov2 hv hn0 hn1 hn2
      refine hK.out _ _ (KeptB.weak t2.out (by omega)) (fun hHeld => ?_)
      clear hK K
      try simp only [Act.put, List.setIfInBounds_toArray, List.set]
      refine wpAnyH_take (i := 4) (oi := _) (v := ?_) (by (simp only [List.getElem?_toArray]; rfl)) (by kernel_rfl) (by kernel_rfl) (by kernel_rfl) (by exact fun _ _ _ h => h) (Or.inl ⟨by rfl, ?_⟩) (by assumption) ?_
      rotate_left
      · intro wS hSw
        go_simp
        all_goals first | with_reducible rfl | rw [if_neg (by omega)]
      simp only [Act.put, List.setIfInBounds_toArray, List.set]
      refine wpAnyH_take (i := 5) (oi := _) (v := ?_) (by (simp only [List.getElem?_toArray]; rfl)) (by kernel_rfl) (by kernel_rfl) (by kernel_rfl) (by exact fun _ _ _ h => h) (Or.inl ⟨by rfl, ?_⟩) (by assumption) ?_
      rotate_left
      · intro wS hSw
        go_simp
        all_goals first | with_reducible rfl | rw [if_neg (by omega)]
      simp only [Act.put, List.setIfInBounds_toArray, List.set]
      clear hHeld
      have cB := cell_of_block bV
      have fB := unfrozen_of_block bV
      have lB := lt_of_block bV
      refine wpAnyH_ready (rs := [6]) (by kernel_rfl) (by simp) ?_
      refine AllReadyH.cons (o := _) (by (simp only [List.getElem?_toArray]; rfl)) (fun K hK => ?_) AllReadyH.nil
      go_simp
      refine hK.out _ _ (KeptB.set (by simp) _ (KeptB.set (by simp) _ (KeptB.set (by simp) _ (KeptB.weak t2.out (show w.heap.size + 2 ≤ Y.heap.size by omega))))) (fun hHeld => ?_)
      clear hK K
      try simp only [Act.put, List.setIfInBounds_toArray, List.set]
      refine wpAnyH_take (i := 7) (oi := _) (v := ?_) (by (simp only [List.getElem?_toArray]; rfl)) (by kernel_rfl) (by kernel_rfl) (by kernel_rfl) (by exact fun _ _ _ h => h) (Or.inl ⟨by rfl, ?_⟩) (by assumption) ?_
      rotate_left
      · intro wS hSw
        go_simp
        all_goals first | with_reducible rfl | rw [if_neg (by omega)]
      simp only [Act.put, List.setIfInBounds_toArray, List.set]
      refine wpAnyH_done (by kernel_rfl) ?_ _
      have OF := Lib.hid (O2.out.set3 bV (.slice e0 n0 f0) (.slice e1 n1 f1) (.slice e2 n2 f2))
      have KF := Lib.hid (below_set3 K2.out (show w.heap.size ≤ w.heap.size + 2 by omega) (.slice e0 n0 f0) (.slice e1 n1 f1) (.slice e2 n2 f2))
      go_wp2_with fail
      refine bodyPost_ret (v := .tuple #[.agg #[.slice e0 n0 f0, .slice e1 n1 f1, .slice e2 n2 f2], .int .i64 cd]) (by simp [results, Try.results43, go_sem, cB]) rfl ?_
      rw [← HPP.out]
      exact ⟨_, rfl, OF.out.gmV HN0.out.symm HN1.out.symm HN2.out.symm, KF.out⟩
    | false =>
      have cQ := cell_of_block qW
      go_wp2_with fail
      refine (l1None_c r.c r.n r.o r.x r.y Y).mono ?_
      rintro e Z ⟨rfl, k3⟩
      replace aW := carryN k3 aW
      replace bW := carryN k3 bW
      replace qW := carryN k3 qW
      replace KX := Lib.hid (below_next KX.out k3)
      clear cQ k3
      cases hnn : noneB r.c r.n r.o r.x r.y with
      | true =>
        have hgood : good r = true := by rw [HGR.out, hnn, Bool.true_or]
        have HD := Lib.hid (show doR z r = doG z r from gameDo_yes HG.out hgood)
        have HGD := Lib.hid hgood
        clear hok hgood hnn
        have cA := cell_of_block aW
        have cQ := cell_of_block qW
        go_wp2_with fail
        have hWs : w.heap.size + 2 < Z.heap.size := lt_of_block bW
        have HB2 := Lib.hid bW
        refine wp_region_held_drew (S := fun w' => ((∀ b o, b < w.heap.size + 2 → (w').cell? ⟨b, o, none⟩ = (Z).cell? ⟨b, o, none⟩) ∧ Below (w.heap.size + 2) (Z) (w'))) (by kernel_rfl) (KeptB.drew (KeptB.refl _ _)) (fun hHeld => ?_)
        refine wpAnyH_take (i := 0) (oi := _) (v := ?_) (by (simp only [List.getElem?_toArray]; rfl)) (by kernel_rfl) (by kernel_rfl) (by kernel_rfl) (by exact fun _ _ _ h => h) (Or.inl ⟨by rfl, ?_⟩) (by assumption) ?_
        rotate_left
        · intro wS hSw
          go_simp
          all_goals first | with_reducible rfl | rw [if_neg (by omega)]
        simp only [Act.put, List.setIfInBounds_toArray, List.set]
        refine wpAnyH_take (i := 2) (oi := _) (v := ?_) (by (simp only [List.getElem?_toArray]; rfl)) (by kernel_rfl) (by kernel_rfl) (by kernel_rfl) (by exact fun _ _ _ h => h) (Or.inl ⟨by rfl, ?_⟩) (by assumption) ?_
        rotate_left
        · intro wS hSw
          go_simp
          all_goals first | with_reducible rfl | rw [if_neg (by omega)]
        simp only [Act.put, List.setIfInBounds_toArray, List.set]
        have k0 := Lib.hid (KeptB.drew (KeptB.refl Z.heap.size Z))
        clear hHeld cA cQ aW bW qW
        refine wpAnyH_ready (rs := [1]) (by kernel_rfl) (by simp) ?_
        refine AllReadyH.cons (o := _) (by (simp only [List.getElem?_toArray]; rfl)) (fun K hK => ?_) AllReadyH.nil
        go_simp
        refine (l2Copy_c z a0 a1 a2 m0 m1 m2 c0 c1 c2 _ (H0.out.below (KX.out.trans (k0.out.2.mono KX.out.size))) (H1.out.below (KX.out.trans (k0.out.2.mono KX.out.size))) (H2.out.below (KX.out.trans (k0.out.2.mono KX.out.size))) (by omega) (by omega) (by omega)).mono ?_
        rintro e u1 ⟨v1, rfl, ov1, kk⟩
        obtain ⟨b0, d0, b1, d1, b2, d2, hv, o1⟩ := ov1.rows
        rw [hv]
        rw [hv] at ov1
        have OV := Lib.hid ov1
        have t1 := Lib.hid (KeptB.next (Nat.le_refl _) k0.out kk)
        have hsz : Z.drew.heap.size ≤ u1.heap.size := kk.size
        clear kk ov1 o1 hv
        refine hK.out _ _ (KeptB.weak t1.out (by omega)) (fun hHeld => ?_)
        clear hK K
        try simp only [Act.put, List.setIfInBounds_toArray, List.set]
        clear hHeld
        refine wpAnyH_ready (rs := [3]) (by kernel_rfl) (by simp) ?_
        refine AllReadyH.cons (o := _) (by (simp only [List.getElem?_toArray]; rfl)) (fun K hK => ?_) AllReadyH.nil
        go_simp
        refine (l2Do_c (B := Z.drew.heap.size) z r _ u1 OV.out hsz HG.out HGD.out).mono ?_
        rintro e u2 ⟨v2, rfl, ov2, k2⟩
        rw [← HD.out] at ov2 ⊢
        obtain ⟨p, hpp⟩ : ∃ p, p = doR z r := ⟨_, rfl⟩
        have HPP := Lib.hid hpp
        rw [← hpp] at ov2 ⊢
        clear hpp
        obtain ⟨g4, cd⟩ := p
        simp only at ov2 ⊢
        obtain ⟨e0, f0, e1, f1, e2, f2, hv, o2⟩ := ov2.rows
        obtain ⟨n0, hn0⟩ : ∃ m, m = g4.es.length := ⟨_, rfl⟩
        obtain ⟨n1, hn1⟩ : ∃ m, m = g4.fl.length := ⟨_, rfl⟩
        obtain ⟨n2, hn2⟩ : ∃ m, m = g4.la.length := ⟨_, rfl⟩
        rw [← hn0, ← hn1, ← hn2] at hv
        rw [hv]
        have HN0 := Lib.hid hn0
        have HN1 := Lib.hid hn1
        have HN2 := Lib.hid hn2
        have O2 := Lib.hid (o2.low (show w.heap.size ≤ Z.drew.heap.size from KX.out.size))
        have t2 := Lib.hid (KeptB.next (Nat.le_refl _) t1.out k2)
        have bV := carryN t2.out.2 HB2.out
        have K2 := Lib.hid (below_next KX.out t2.out.2)
        clear k2 o2 ov2 hv hn0 hn1 hn2
        refine hK.out _ _ (KeptB.weak t2.out (by omega)) (fun hHeld => ?_)
        clear hK K
        try simp only [Act.put, List.setIfInBounds_toArray, List.set]
        refine wpAnyH_take (i := 4) (oi := _) (v := ?_) (by (simp only [List.getElem?_toArray]; rfl)) (by kernel_rfl) (by kernel_rfl) (by kernel_rfl) (by exact fun _ _ _ h => h) (Or.inl ⟨by rfl, ?_⟩) (by assumption) ?_
        rotate_left
        · intro wS hSw
          go_simp
          all_goals first | with_reducible rfl | rw [if_neg (by omega)]
        simp only [Act.put, List.setIfInBounds_toArray, List.set]
        refine wpAnyH_take (i := 5) (oi := _) (v := ?_) (by (simp only [List.getElem?_toArray]; rfl)) (by kernel_rfl) (by kernel_rfl) (by kernel_rfl) (by exact fun _ _ _ h => h) (Or.inl ⟨by rfl, ?_⟩) (by assumption) ?_
        rotate_left
        · intro wS hSw
          go_simp
          all_goals first | with_reducible rfl | rw [if_neg (by omega)]
        simp only [Act.put, List.setIfInBounds_toArray, List.set]
        clear hHeld
        have cB := cell_of_block bV
        have fB := unfrozen_of_block bV
        have lB := lt_of_block bV
        refine wpAnyH_ready (rs := [6]) (by kernel_rfl) (by simp) ?_
        refine AllReadyH.cons (o := _) (by (simp only [List.getElem?_toArray]; rfl)) (fun K hK => ?_) AllReadyH.nil
        go_simp
        refine hK.out _ _ (KeptB.set (by simp) _ (KeptB.set (by simp) _ (KeptB.set (by simp) _ (KeptB.weak t2.out (show w.heap.size + 2 ≤ Z.heap.size by omega))))) (fun hHeld => ?_)
        clear hK K
        try simp only [Act.put, List.setIfInBounds_toArray, List.set]
        refine wpAnyH_take (i := 7) (oi := _) (v := ?_) (by (simp only [List.getElem?_toArray]; rfl)) (by kernel_rfl) (by kernel_rfl) (by kernel_rfl) (by exact fun _ _ _ h => h) (Or.inl ⟨by rfl, ?_⟩) (by assumption) ?_
        rotate_left
        · intro wS hSw
          go_simp
          all_goals first | with_reducible rfl | rw [if_neg (by omega)]
        simp only [Act.put, List.setIfInBounds_toArray, List.set]
        refine wpAnyH_done (by kernel_rfl) ?_ _
        have OF := Lib.hid (O2.out.set3 bV (.slice e0 n0 f0) (.slice e1 n1 f1) (.slice e2 n2 f2))
        have KF := Lib.hid (below_set3 K2.out (show w.heap.size ≤ w.heap.size + 2 by omega) (.slice e0 n0 f0) (.slice e1 n1 f1) (.slice e2 n2 f2))
        go_wp2_with fail
        refine bodyPost_ret (v := .tuple #[.agg #[.slice e0 n0 f0, .slice e1 n1 f1, .slice e2 n2 f2], .int .i64 cd]) (by simp [results, Try.results43, go_sem, cB]) rfl ?_
        rw [← HPP.out]
        exact ⟨_, rfl, OF.out.gmV HN0.out.symm HN1.out.symm HN2.out.symm, KF.out⟩
      | false =>
        have hbad : good r = false := by rw [HGR.out, hnn, hok]; rfl
        have HD := Lib.hid (show doR z r = (⟨[], [], []⟩, 1) from gameDo_bad (.inr hbad))
        have cB := cell_of_block bW
        have fB := unfrozen_of_block bW
        have lB := lt_of_block bW
        clear hbad hok hnn
        go_wp2_with fail
        refine bodyPost_ret (v := .tuple #[.agg #[.slice none 0 0, .slice none 0 0, .slice none 0 0], .int .i64 1]) (by simp [results, Try.results43, go_sem, cB]) rfl ?_
        rw [HD.out]
        have KX' := KX.out
        exact ⟨_, rfl, (own3_nil _ _).gm, (by repeat' (first | with_reducible exact Below.refl _ _ | with_reducible assumption | with_reducible refine Below.alloc ?_ ?_ _ | with_reducible refine Below.drew ?_ | with_reducible refine Below.setCell ?_ ?_ _ | omega | (simp; omega) | (simp; done)))⟩
theorem sGameDo_c (z : Gm) (r : Rq) (a0 a1 a2 : Option Addr) (c0 c1 c2 : Nat) (w : World) (h0 : IsSl w (.slice a0 z.es.length c0) 5 Rq.cs z.es) (h1 : IsSl w (.slice a1 z.fl.length c1) 1 intR z.fl) (h2 : IsSl w (.slice a2 z.la.length c2) 1 intR z.la)
    (hs : z.es.length + z.fl.length + z.la.length ≤ 1048576) :
    Calls Try.prog 43 #[.agg #[.slice a0 z.es.length c0, .slice a1 z.fl.length c1, .slice a2 z.la.length c2], .agg #[.int .i64 r.c, .int .i64 r.n, .int .i64 r.o, .int .i64 r.x, .int .i64 r.y]] w fun e w' => ∃ b0 d0 b1 d1 b2 d2, e = .returned (.tuple #[.agg #[.slice b0 (doR z r).1.es.length d0, .slice b1 (doR z r).1.fl.length d1, .slice b2 (doR z r).1.la.length d2], .int .i64 (doR z r).2]) ∧
      Row w' w.heap.size 92 b0 d0 5 Rq.cs (doR z r).1.es ∧ Row w' w.heap.size 3 b1 d1 1 intR (doR z r).1.fl ∧ Row w' w.heap.size 3 b2 d2 1 intR (doR z r).1.la ∧ Below w.heap.size w w' :=
  (sGameDoG_c z r a0 a1 a2 c0 c1 c2 w h0 h1 h2 hs).mono fun _ _ ⟨v, he, og, k⟩ => by
    obtain ⟨b0, d0, b1, d1, b2, d2, hv, o⟩ := og.rows
    subst hv
    exact ⟨b0, d0, b1, d1, b2, d2, he, o.e, o.f, o.l, k⟩
end Go.Proofs.Ytofedboeggdkaaa

/-! What GameDo's number tells, and GameDo once more, as plain laws; no program; no condition. -/
namespace Go.Proofs.Ytofedboeggdkaaa
open Go.RowKit

theorem actG_codes (g : Gm) (k : Nat) (r : Rq) : (actG g k r).2 = 0 ∨ 6 ≤ (actG g k r).2 := by
  unfold actG
  simp only
  repeat' split
  all_goals first | exact .inl rfl | exact .inr (by simp)
theorem doG_codes {g : Gm} {r : Rq} (h : r ≠ ⟨0, 0, 0, 0, 0⟩) (h2 : ¬ r.n ≤ g.la.getD (r.c - 1).toNat 0) : (doG g r).2 ≠ 1 ∧ (doG g r).2 ≠ 2 ∧ (doG g r).2 ≠ 3 := by
  unfold doG
  rw [if_neg h, if_neg h2]
  simp only
  split
  · split
    · exact ⟨by simp, by simp, by simp⟩
    · rename_i k _ _
      have := actG_codes ⟨g.es, g.fl, g.la.set (r.c - 1).toNat r.n⟩ k r
      omega
  · split
    · exact ⟨by simp, by simp, by simp⟩
    · exact ⟨by simp, by simp, by simp⟩
theorem doR_is {z : Gm} {r : Rq} (h : (doR z r).2 ≠ 1) : gameB z = true ∧ good r = true ∧ doR z r = doG z r := by
  unfold doR at h ⊢
  by_cases hb : gameB z = true ∧ good r = true
  · exact ⟨hb.1, hb.2, gameDo_yes hb.1 hb.2⟩
  · have hb' : gameB z = false ∨ good r = false := by
      cases h1 : gameB z with
      | false => exact .inl rfl
      | true =>
        cases h2 : good r with
        | false => exact .inr rfl
        | true => exact absurd ⟨h1, h2⟩ hb
    rw [gameDo_no hb'] at h
    exact absurd rfl h
/-- Of what neither failed in form nor was none. -/
theorem code_law {z : Gm} {r : Rq} (h1 : (doR z r).2 ≠ 1) (h2 : (doR z r).2 ≠ 2) :
    gameB z = true ∧ gameB (doR z r).1 = true ∧ 1 ≤ r.c ∧ r.c ≤ 4 ∧ (doR z r).1.la.getD (r.c - 1).toNat 0 = (if (doR z r).2 = 3 then z.la.getD (r.c - 1).toNat 0 else r.n) ∧ ((doR z r).2 ≠ 0 → (doR z r).1.es = z.es ∧ (doR z r).1.fl = z.fl) := by
  obtain ⟨hg, hr, he⟩ := doR_is h1
  rw [he] at h1 h2 ⊢
  have hne : r ≠ ⟨0, 0, 0, 0, 0⟩ := by
    intro e
    apply h2
    unfold doG
    rw [if_pos e]
  have hok := (good_or hr).resolve_right hne
  have hb := okB_op' hok
  have hl := hg
  rw [gameB_iff] at hl
  refine ⟨hg, doG_ok hg (good_or hr), hb.1, hb.2.1, ?_, doG_code z r⟩
  by_cases ho : r.n ≤ z.la.getD (r.c - 1).toNat 0
  · have e : doG z r = (z, 3) := by unfold doG; rw [if_neg hne, if_pos ho]
    rw [e, if_pos rfl]
  · rw [if_neg (doG_codes hne ho).2.2, doG_last z r hne ho]
    have hi : (r.c - 1).toNat < z.la.length := by omega
    rw [List.getD_eq_getElem?_getD, List.getElem?_set_self hi]
    rfl
/-- GameDo once more. -/
theorem again_law {z : Gm} {r : Rq} (h1 : (doR z r).2 ≠ 1) :
    gameB z = true ∧ gameB (doR z r).1 = true ∧ (doR (doR z r).1 r).1 = (doR z r).1 ∧ (r = ⟨0, 0, 0, 0, 0⟩ → (doR (doR z r).1 r).2 = 2 ∧ (doR z r).1 = z) ∧ (r ≠ ⟨0, 0, 0, 0, 0⟩ → (doR (doR z r).1 r).2 = 3) := by
  obtain ⟨hg, hr, he⟩ := doR_is h1
  rw [he]
  have hgx := doG_ok hg (good_or hr)
  have hx : doR (doG z r).1 r = doG (doG z r).1 r := gameDo_yes hgx hr
  rw [hx]
  by_cases hne : r = ⟨0, 0, 0, 0, 0⟩
  · have e : ∀ g : Gm, doG g r = (g, 2) := fun g => by unfold doG; rw [if_pos hne]
    rw [e z, e z]
    exact ⟨hg, hg, rfl, fun _ => ⟨rfl, rfl⟩, fun h => absurd hne h⟩
  · have hok := (good_or hr).resolve_right hne
    have hb := okB_op' hok
    have hl := hg
    rw [gameB_iff] at hl
    rw [doG_again z r hne hb.1 hb.2.1 hl.2.2.2.2.1]
    exact ⟨hg, hgx, rfl, fun h => absurd h hne, fun _ => rfl⟩
end Go.Proofs.Ytofedboeggdkaaa
