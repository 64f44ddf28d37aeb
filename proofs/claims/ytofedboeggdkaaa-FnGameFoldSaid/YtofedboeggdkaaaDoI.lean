/- GameDo, the program's; condition: small sizes. -/
import Derived.Test.YtofedboeggdkaaaActA
import Derived.Test.YtofedboeggdkaaaDoG
import Derived.Test.YtofedboeggdkaaaCopyI
import Derived.Test.YtofedboeggdkaaaGameOkW
namespace Go.Proofs.Ytofedboeggdkaaa
open Go.RowKit Go.Joins
attribute [local go_sem ↓] eql_rq neq_rq

def EmptyG : Gm := ⟨[], [], []⟩
theorem gameDo_bad {z : Gm} {r : Rq} (h : gameB z = false ∨ good r = false) : gameDo z r (good r) = (⟨[], [], []⟩, 1) := by
  unfold gameDo
  rcases h with h | h <;> rw [h] <;> simp
theorem own3_nil (w : World) (B : Nat) : Own3 w B none 0 none 0 none 0 ⟨[], [], []⟩ :=
  ⟨Row.nil _ _ _ _ _ _, Row.nil _ _ _ _ _ _, Row.nil _ _ _ _ _ _, fun g h => by simp [rowBlk] at h, fun g h => by simp [rowBlk] at h, fun g h => by simp [rowBlk] at h⟩

theorem game_lensG {g : Gm} (h : gameB g = true) : g.fl.length = 16 ∧ g.la.length = 4 := by
  rw [gameB_iff] at h
  exact ⟨h.2.2.2.1, h.2.2.2.2.1⟩
set_option maxRecDepth 100000 in
set_option maxHeartbeats 8000000 in
theorem GameDo_no (z : Gm) (r : Rq) (a0 a1 a2 : Option Addr) (c0 c1 c2 : Nat) (w : World) (h0 : IsSl w (.slice a0 z.es.length c0) 5 Rq.cs z.es) (h1 : IsSl w (.slice a1 z.fl.length c1) 1 intR z.fl) (h2 : IsSl w (.slice a2 z.la.length c2) 1 intR z.la)
    (hs : z.es.length + z.fl.length + z.la.length ≤ 1048576) (hbad : gameB z = false ∨ good r = false) :
    Calls Try.prog 29 #[.agg #[.slice a0 z.es.length c0, .slice a1 z.fl.length c1, .slice a2 z.la.length c2], .agg #[.int .i64 r.c, .int .i64 r.n, .int .i64 r.o, .int .i64 r.x, .int .i64 r.y]] w (RetGF w.heap.size ⟨[], [], []⟩ 1 w) := by
  have H0 := Lib.hid h0
  have H1 := Lib.hid h1
  have H2 := Lib.hid h2
  have HS := Lib.hid hs
  have hgr : goodB r.c r.n r.o r.x r.y = good r := rfl
  clear h0 h1 h2 hs
  go_enter Try.func29, Try.ntmps29
  go_upto_region 1 with fail
  obtain ⟨W, hW, sW, aW, qW, bW, kW⟩ := blocks3 w (.cells #[.slice a0 z.es.length c0, .slice a1 z.fl.length c1, .slice a2 z.la.length c2] 46) (.cells #[.int .i64 r.c, .int .i64 r.n, .int .i64 r.o, .int .i64 r.x, .int .i64 r.y] 34) (.cells #[.slice none 0 0, .slice none 0 0, .slice none 0 0] 46)
  rw [← hW]
  clear hW sW
  have cA := cell_of_block aW
  go_wp2_with fail
  refine (GameOk_c z a0 a1 a2 c0 c1 c2 W (H0.out.below kW) (H1.out.below kW) (H2.out.below kW) HS.out).mono ?_
  rintro e w1 ⟨rfl, k1⟩
  have bW1 := carryN k1 bW
  have qW1 := carryN k1 qW
  have KX := below_next kW k1
  have cQ := cell_of_block qW1
  have cB := cell_of_block bW1
  have fB := unfrozen_of_block bW1
  have lB := lt_of_block bW1
  clear cA k1 aW bW qW kW
  cases hg : gameB z with
  | false =>
    go_wp2_with fail
    refine bodyPost_ret (v := .tuple #[.agg #[.slice none 0 0, .slice none 0 0, .slice none 0 0], .int .i64 1]) (by simp [results, Try.results29, go_sem, cB]) rfl ?_
    exact retGF (own3_nil _ _) rfl rfl rfl (by repeat' (first | with_reducible exact Below.refl _ _ | with_reducible assumption | with_reducible refine Below.alloc ?_ ?_ _ | with_reducible refine Below.drew ?_ | with_reducible refine Below.setCell ?_ ?_ _ | omega | (simp; omega) | (simp; done)))
  | true =>
    have hgg : good r = false := by rcases hbad with q | q; rw [hg] at q; cases q; exact q
    go_wp2_with fail
    refine (okOrNull_c r.c r.n r.o r.x r.y w1).mono ?_
    rintro e w2 ⟨rfl, k2⟩
    rw [hgr, hgg]
    have bW2 := carryN k2 bW1
    have K2 := below_next KX k2
    clear cB fB lB cQ
    have cB := cell_of_block bW2
    have fB := unfrozen_of_block bW2
    have lB := lt_of_block bW2
    clear bW1 k2 KX qW1
    go_wp2_with fail
    refine bodyPost_ret (v := .tuple #[.agg #[.slice none 0 0, .slice none 0 0, .slice none 0 0], .int .i64 1]) (by simp [results, Try.results29, go_sem, cB]) rfl ?_
    exact retGF (own3_nil _ _) rfl rfl rfl (by repeat' (first | with_reducible exact Below.refl _ _ | with_reducible assumption | with_reducible refine Below.alloc ?_ ?_ _ | with_reducible refine Below.drew ?_ | with_reducible refine Below.setCell ?_ ?_ _ | omega | (simp; omega) | (simp; done)))

set_option maxRecDepth 100000 in
set_option maxHeartbeats 16000000 in
theorem GameDo_yes (es : List Rq) (fl la : List Int) (c n o x y : Int) (n0 : Nat) (a0 a1 a2 : Option Addr) (c0 c1 c2 : Nat) (w : World) (h0 : IsSl w (.slice a0 n0 c0) 5 Rq.cs es) (h1 : IsSl w (.slice a1 16 c1) 1 intR fl) (h2 : IsSl w (.slice a2 4 c2) 1 intR la)
    (hg : gameB ⟨es, fl, la⟩ = true) (hr : good ⟨c, n, o, x, y⟩ = true) :
    Calls Try.prog 29 #[.agg #[.slice a0 n0 c0, .slice a1 16 c1, .slice a2 4 c2], .agg #[.int .i64 c, .int .i64 n, .int .i64 o, .int .i64 x, .int .i64 y]] w (RetGF w.heap.size (doG ⟨es, fl, la⟩ ⟨c, n, o, x, y⟩).1 (doG ⟨es, fl, la⟩ ⟨c, n, o, x, y⟩).2 w) := by
  have hg' := hg
  rw [gameB_iff] at hg'
  obtain ⟨q1, q2, q3, q4, q5, -⟩ := hg'
  have hle : es.length ≤ 4 := ents_le4 q1
  have HP := Lib.hid (places_of q1.1)
  have HF := Lib.hid (show ∀ n ∈ fl, 0 ≤ n ∧ n ≤ 20 from q2)
  have hlen0 : es.length = n0 := h0.bounds.1
  have HN0 := Lib.hid hlen0
  have HN1 := Lib.hid (show fl.length = 16 from q4)
  have HN2 := Lib.hid (show la.length = 4 from q5)
  have h4 : n0 ≤ 4 := by omega
  have H0 := Lib.hid h0
  have H1 := Lib.hid h1
  have H2 := Lib.hid h2
  have hgr : goodB c n o x y = true := hr
  have HGO := Lib.hid (fun V (k : Below w.heap.size w V) => GameOk_c ⟨es, fl, la⟩ a0 a1 a2 c0 c1 c2 V (by rw [hlen0]; exact h0.below k) (by simp only at q4; rw [q4]; exact h1.below k) (by simp only at q5; rw [q5]; exact h2.below k) (by simp only at q4 q5 ⊢; omega))
  have hl2 := h2.bounds.2.1
  simp only at HGO
  rw [hg, hlen0, HN1.out, HN2.out] at HGO
  have HG := Lib.hid hg
  clear h0 h1 h2 q1 q2 q3 q4 q5 hlen0 hle hg
  go_enter Try.func29, Try.ntmps29
  go_upto_region 1 with fail
  obtain ⟨W, hW, sW, aW, qW, bW, kW⟩ := blocks3 w (.cells #[.slice a0 n0 c0, .slice a1 16 c1, .slice a2 4 c2] 46) (.cells #[.int .i64 c, .int .i64 n, .int .i64 o, .int .i64 x, .int .i64 y] 34) (.cells #[.slice none 0 0, .slice none 0 0, .slice none 0 0] 46)
  rw [← hW]
  clear hW sW
  have cA := cell_of_block aW
  have cQ := cell_of_block qW
  go_wp2_with fail
  refine (HGO.out W kW).mono ?_
  rintro e w1 ⟨rfl, k1⟩
  replace aW := carryN k1 aW
  replace bW := carryN k1 bW
  replace qW := carryN k1 qW
  have KX := Lib.hid (below_next kW k1)
  clear cA cQ k1 kW
  have cQ := cell_of_block qW
  go_wp2_with fail
  refine (okOrNull_c c n o x y w1).mono ?_
  rintro e w2 ⟨rfl, k2⟩
  rw [hgr]
  replace aW := carryN k2 aW
  replace bW := carryN k2 bW
  replace qW := carryN k2 qW
  replace KX := Lib.hid (below_next KX.out k2)
  clear cQ k2 HGO
  have cA := cell_of_block aW
  go_wp2_with fail
  refine (copyOfG_c ⟨es, fl, la⟩ a0 a1 a2 n0 16 4 c0 c1 c2 w2 (H0.out.below KX.out) (H1.out.below KX.out) (H2.out.below KX.out) (by omega) (by omega) (by omega)).mono ?_
  rintro e w3 ⟨b0, b1, b2, rfl, r0, r1, r2, d01, d02, d12, k3⟩
  have hsw3 : w.heap.size + 3 ≤ w2.heap.size := lt_of_block bW
  have O := Lib.hid (show Own3 w3 (w.heap.size + 3) b0 n0 b1 16 b2 4 ⟨es, fl, la⟩ from ⟨r0.low hsw3, r1.low hsw3, r2.low hsw3, d01, d02, d12⟩)
  replace aW := carryN k3 aW
  replace bW := carryN k3 bW
  replace qW := carryN k3 qW
  replace KX := Lib.hid (below_next KX.out k3)
  clear cA k3 r0 r1 r2 d01 d02 d12 hsw3
  obtain ⟨X, hX, sX, pX, kX⟩ := blocks1 w3 (.cells #[.slice b0 n0 n0, .slice b1 16 16, .slice b2 4 4] 46)
  obtain ⟨P, hP⟩ : ∃ P, P = w3.heap.size := ⟨_, rfl⟩
  go_upto_region 4 with fail
  rw [← hX]
  rw [← hP] at pX ⊢
  have hPw : w.heap.size + 2 < P := by rw [hP]; exact lt_of_block bW
  clear hX sX
  replace aW := carryN kX aW
  replace bW := carryN kX bW
  replace qW := carryN kX qW
  replace KX := Lib.hid (below_next KX.out kX)
  replace O := Lib.hid (O.out.below kX)
  clear kX hP
  have cQ := cell_of_block qW
  have cP := cell_of_block pX
  have cB := cell_of_block bW
  have fB := unfrozen_of_block bW
  have lB := lt_of_block bW
  have lP := lt_of_block pX
  by_cases hz : (⟨c, n, o, x, y⟩ : Rq) = ⟨0, 0, 0, 0, 0⟩
  · have hD : doG ⟨es, fl, la⟩ ⟨c, n, o, x, y⟩ = (⟨es, fl, la⟩, 2) := by unfold doG; rw [if_pos hz]
    have hez : eqR c n o x y 0 0 0 0 0 = true := by injection hz with e1 e2 e3 e4 e5; subst e1 e2 e3 e4 e5; rfl
    have HD := Lib.hid hD
    clear hz hD
    go_wp2_with fail
    refine bodyPost_ret (v := .tuple #[.agg #[.slice b0 n0 n0, .slice b1 16 16, .slice b2 4 4], .int .i64 2]) (by simp [results, Try.results29, go_sem, cB]) rfl ?_
    rw [HD.out]
    have KX' := KX.out
    exact retGF ((O.out.set3 bW _ _ _).low (by omega)) HN0.out HN1.out HN2.out (by repeat' (first | with_reducible exact Below.refl _ _ | with_reducible assumption | with_reducible refine Below.alloc ?_ ?_ _ | with_reducible refine Below.drew ?_ | with_reducible refine Below.setCell ?_ ?_ _ | omega | (simp; omega) | (simp; done)))
  · have hez : eqR c n o x y 0 0 0 0 0 = false := eqR_ne (r := ⟨c, n, o, x, y⟩) (s := ⟨0, 0, 0, 0, 0⟩) hz
    have hok := (good_or hr).resolve_right hz
    simp only at hok
    have hb := okB_xy hok
    obtain ⟨i, hi, hi4⟩ : ∃ i : Nat, c - 1 = (i : Int) ∧ i < 4 := ⟨(c - 1).toNat, by omega, by omega⟩
    have hci : (c - 1).toNat = i := by omega
    have hw1 : IntKind.i64.wrap (c - 1) = c - 1 := IntWalk.i64_in _ ⟨by omega, by omega⟩
    have hi0 : (0 : Int) ≤ (i : Int) := by omega
    have hi1 : (i : Int) < 4 := by omega
    have hiz : i < la.length := by rw [HN2.out]; exact hi4
    have HZ := Lib.hid hz
    have HCI := Lib.hid hci
    have HOK := Lib.hid hok
    have hrr := ((H2.out.below KX.out).bounds).2.2.2
    obtain ⟨f0, o0, hf0, hfl0, hfc⟩ := hrr i hiz
    have ef : X.cell? ⟨f0, o0 + i, none⟩ = some (.int .i64 la[i]) := by have := hfc 0 (by decide); simpa [intR] using this
    subst hf0
    clear hfc hrr hz
    obtain ⟨v, hv⟩ : ∃ v, la[i] = v := ⟨_, rfl⟩
    have HV := Lib.hid (show la.getD (c - 1).toNat 0 = v by rw [hci, List.getD_eq_getElem?_getD, List.getElem?_eq_getElem hiz, Option.getD_some, hv])
    rw [hv] at ef
    clear hv hci
    have e1 := cell_regrown ef
    have ga := cellRe aW
    have gq := cellRe qW
    clear ef
    by_cases hold : n ≤ v
    · have hd : decide (n ≤ v) = true := by simp; omega
      have HD := Lib.hid (show doG ⟨es, fl, la⟩ ⟨c, n, o, x, y⟩ = (⟨es, fl, la⟩, 3) by unfold doG; rw [if_neg HZ.out]; simp only; rw [HV.out, if_pos hold])
      go_wp2_with fail
      refine wp_region_quiet_below (by kernel_rfl) (by kernel_rfl) ?_
      repeat (go_big_quiet_step (fail))
      refine wpQuiet_nil ?_
      intro _ hw'
      obtain ⟨⟨dq, osq⟩, hw''⟩ := hw'
      subst hw''
      have hkb := below_regrown X dq osq
      replace pX := carryN hkb pX
      replace bW := carryN hkb bW
      replace KX := Lib.hid (below_next KX.out hkb)
      replace O := Lib.hid (O.out.below hkb)
      clear hkb e1 ga gq cQ cP cB fB lB lP aW qW
      generalize Sort.grow (redrawn X dq) osq = Y at *
      have cP := cell_of_block pX
      have cB := cell_of_block bW
      have fB := unfrozen_of_block bW
      have lB := lt_of_block bW
      have lP := lt_of_block pX
      go_wp2_with fail
      refine bodyPost_ret (v := .tuple #[.agg #[.slice b0 n0 n0, .slice b1 16 16, .slice b2 4 4], .int .i64 3]) (by simp [results, Try.results29, go_sem, cB]) rfl ?_
      rw [HD.out]
      have KX' := KX.out
      exact retGF ((O.out.set3 bW _ _ _).low (by omega)) HN0.out HN1.out HN2.out (by repeat' (first | with_reducible exact Below.refl _ _ | with_reducible assumption | with_reducible refine Below.alloc ?_ ?_ _ | with_reducible refine Below.drew ?_ | with_reducible refine Below.setCell ?_ ?_ _ | omega | (simp; omega) | (simp; done)))
    · have hd : decide (n ≤ v) = false := by simp; omega
      have HD := Lib.hid (show doG ⟨es, fl, la⟩ ⟨c, n, o, x, y⟩ = actR ⟨es, fl, la.set i n⟩ ⟨c, n, o, x, y⟩ by rw [doG_act HZ.out (by simp only; rw [HV.out]; exact hold)]; simp only; rw [HCI.out])
      go_wp2_with fail
      refine wp_region_quiet_below (by kernel_rfl) (by kernel_rfl) ?_
      repeat (go_big_quiet_step (fail))
      refine wpQuiet_nil ?_
      intro _ hw'
      obtain ⟨⟨dq, osq⟩, hw''⟩ := hw'
      subst hw''
      have hkb := below_regrown X dq osq
      replace pX := carryN hkb pX
      replace bW := carryN hkb bW
      replace qW := carryN hkb qW
      replace KX := Lib.hid (below_next KX.out hkb)
      replace O := Lib.hid (O.out.below hkb)
      clear hkb e1 ga gq cQ cP cB fB lB lP aW
      generalize Sort.grow (redrawn X dq) osq = Y at *
      have cP := cell_of_block pX
      have cQ := cell_of_block qW
      obtain ⟨f2, hf2, hf2B, hf2l, e2, ff, hr2⟩ := O.out.l.intAt (i := i) hiz
      subst hf2
      have hPf : ¬ P = f2 := fun e => by
        obtain ⟨g', cur, q1, -, q3, -⟩ := O.out.l.own (by omega)
        injection q1 with q1
        injection q1 with q1
        subst q1
        rw [← e, pX] at q3
        injection q3 with q3
        injection q3 with q3 q4
        exact absurd q4 (by decide)
      have hBf : ¬ (w.heap.size + 2) = f2 := fun e => by
        obtain ⟨g', cur, q1, -, q3, -⟩ := O.out.l.own (by omega)
        injection q1 with q1
        injection q1 with q1
        subst q1
        rw [← e, bW] at q3
        injection q3 with q3
        injection q3 with q3 q4
        exact absurd q4 (by decide)
      have hQf : ¬ (w.heap.size + 1) = f2 := fun e => by
        obtain ⟨g', cur, q1, -, q3, -⟩ := O.out.l.own (by omega)
        injection q1 with q1
        injection q1 with q1
        subst q1
        rw [← e, qW] at q3
        injection q3 with q3
        injection q3 with q3 q4
        exact absurd q4 (by decide)
      have hfP : ¬ f2 = P := fun e => hPf e.symm
      have hfB : ¬ f2 = (w.heap.size + 2) := fun e => hBf e.symm
      have hfQ : ¬ f2 = (w.heap.size + 1) := fun e => hQf e.symm
      have O2 := Lib.hid (O.out.cellL (i := i) hiz n)
      have p2 := (Below.heap_setCell Y ⟨f2, i, none⟩ (.int .i64 n) P hPf).trans pX
      have b2' := (Below.heap_setCell Y ⟨f2, i, none⟩ (.int .i64 n) (w.heap.size + 2) hBf).trans bW
      have q2 := (Below.heap_setCell Y ⟨f2, i, none⟩ (.int .i64 n) (w.heap.size + 1) hQf).trans qW
      have K2 := Lib.hid (Below.setCell KX.out (p := ⟨f2, i, none⟩) (show w.heap.size ≤ f2 by omega) (.int .i64 n))
      go_upto_region 9 with fail
      obtain ⟨U, hU⟩ : ∃ U, U = Y.setCell ⟨f2, i, none⟩ (.int .i64 n) := ⟨_, rfl⟩
      rw [← hU] at O2 p2 b2' q2 K2 ⊢
      clear hU pX bW qW O KX cP cQ e2 ff
      have HL4 := Lib.hid (show (la.set i n).length = 4 by rw [List.length_set]; exact HN2.out)
      have cQ := cell_of_block q2
      go_wp2_with fail
      refine (act_c (D := w.heap.size + 3) (B := w.heap.size + 3) es fl (la.set i n) ⟨c, n, o, x, y⟩ n0 4 P b0 b1 (some ⟨f2, 0, none⟩) 16 4 U p2 O2.out HN0.out HN1.out HL4.out h4 (Nat.le_refl _) (by omega) (by have := lt_of_block p2; omega) HP.out HF.out HOK.out).mono ?_
      rintro e w5 ⟨rfl, ⟨d0, d1, d2, p5, o5⟩, k5⟩
      obtain ⟨p, hpp⟩ : ∃ p, p = actR ⟨es, fl, la.set i n⟩ ⟨c, n, o, x, y⟩ := ⟨_, rfl⟩
      have HPP := Lib.hid hpp
      rw [← hpp] at p5 o5 ⊢
      clear hpp
      have HPL := Lib.hid (show p.1.fl.length = 16 ∧ p.1.la.length = 4 from by rw [HPP.out, ← HD.out]; exact game_lensG (doG_ok HG.out (good_or hr)))
      obtain ⟨g4, cd⟩ := p
      simp only at p5 o5 ⊢
      obtain ⟨m0, hm0⟩ : ∃ m, m = g4.es.length := ⟨_, rfl⟩
      obtain ⟨m1, hm1⟩ : ∃ m, m = g4.fl.length := ⟨_, rfl⟩
      obtain ⟨m2, hm2⟩ : ∃ m, m = g4.la.length := ⟨_, rfl⟩
      rw [← hm0, ← hm1, ← hm2] at p5
      rw [← hm0] at o5
      have h1m : m1 = 16 := by rw [hm1, HPL.out.1]
      have h2m : m2 = 4 := by rw [hm2, HPL.out.2]
      subst h1m h2m
      have HM0 := Lib.hid hm0
      have HM1 := Lib.hid hm1
      have HM2 := Lib.hid hm2
      have b5 := (k5.block (w.heap.size + 2) (by omega)).trans b2'
      have K5 := Lib.hid (K2.out.trans (k5.mono (by omega)))
      have OF := Lib.hid ((o5.set3 b5 (.slice d0 m0 m0) (.slice d1 16 16) (.slice d2 4 4)).low (show w.heap.size ≤ w.heap.size + 3 by omega))
      have KF := Lib.hid (below_set3 K5.out (show w.heap.size ≤ w.heap.size + 2 by omega) (.slice d0 m0 m0) (.slice d1 16 16) (.slice d2 4 4))
      clear hm0 hm1 hm2 k5 o5 p2 b2' q2 K2 O2 cQ
      have cP := cell_of_block p5
      have cB := cell_of_block b5
      have fB := unfrozen_of_block b5
      have lB := lt_of_block b5
      have lP := lt_of_block p5
      go_wp2_with fail
      refine bodyPost_ret (v := .tuple #[.agg #[.slice d0 m0 m0, .slice d1 16 16, .slice d2 4 4], .int .i64 cd]) (by simp [results, Try.results29, go_sem, cB]) rfl ?_
      rw [HD.out, ← HPP.out]
      exact retGF OF.out HM0.out.symm HM1.out.symm HM2.out.symm KF.out

/-- Of any game, and any ask. -/
theorem GameDoF_c (z : Gm) (r : Rq) (a0 a1 a2 : Option Addr) (c0 c1 c2 : Nat) (w : World) (h0 : IsSl w (.slice a0 z.es.length c0) 5 Rq.cs z.es) (h1 : IsSl w (.slice a1 z.fl.length c1) 1 intR z.fl) (h2 : IsSl w (.slice a2 z.la.length c2) 1 intR z.la)
    (hs : z.es.length + z.fl.length + z.la.length ≤ 1048576) :
    Calls Try.prog 29 #[.agg #[.slice a0 z.es.length c0, .slice a1 z.fl.length c1, .slice a2 z.la.length c2], .agg #[.int .i64 r.c, .int .i64 r.n, .int .i64 r.o, .int .i64 r.x, .int .i64 r.y]] w (RetGF w.heap.size (gameDo z r (good r)).1 (gameDo z r (good r)).2 w) := by
  by_cases hb : gameB z = true ∧ good r = true
  · rw [gameDo_yes hb.1 hb.2]
    have hg' := hb.1
    rw [gameB_iff] at hg'
    obtain ⟨q1, q2, q3, q4, q5, -⟩ := hg'
    obtain ⟨es, fl, la⟩ := z
    obtain ⟨c, n, o, x, y⟩ := r
    simp only at q4 q5 h0 h1 h2 ⊢
    rw [q4] at h1 ⊢
    rw [q5] at h2 ⊢
    exact GameDo_yes es fl la c n o x y es.length a0 a1 a2 c0 c1 c2 w h0 h1 h2 hb.1 hb.2
  · have hb' : gameB z = false ∨ good r = false := by
      cases h1 : gameB z with
      | false => exact .inl rfl
      | true =>
        cases h2 : good r with
        | false => exact .inr rfl
        | true => exact absurd ⟨h1, h2⟩ hb
    rw [gameDo_bad hb']
    exact GameDo_no z r a0 a1 a2 c0 c1 c2 w h0 h1 h2 hs hb'
end Go.Proofs.Ytofedboeggdkaaa
