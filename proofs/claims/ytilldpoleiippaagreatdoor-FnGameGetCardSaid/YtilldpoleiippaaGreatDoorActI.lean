/- The reference's l2Act, at gifts; condition: small sizes. -/
import Derived.Test.YtilldpoleiippaaGreatDoorOwnX
import Derived.Test.YtilldpoleiippaaGreatDoorActH
set_option linter.unusedSimpArgs false
set_option linter.unusedVariables false
namespace Go.Proofs.YtilldpoleiippaaGreatDoor
open Go.RowKit Go.Joins

set_option maxRecDepth 100000 in
set_option maxHeartbeats 8000000 in
theorem l2Act_give_far {B : Nat} {X : Nat → Prop} (es : List Rq) (fl la : List Int) (k n0 n2 : Nat) (a0 a1 a2 : Option Addr) (c0 c1 c2 : Nat) (c n o x y : Int) (w : World) (h : OwnX X w B a0 c0 a1 c1 a2 c2 ⟨es, fl, la⟩) (hn0 : es.length = n0) (hn1 : fl.length = 16) (hn2 : la.length = n2) (hk : k < n0) (h4 : n0 ≤ 4) (hB : B ≤ w.heap.size) (hp : Places es) (hf : ∀ n ∈ fl, 0 ≤ n ∧ n ≤ 20)
    (hx : -1 ≤ x ∧ x ≤ 4) (hy : -1 ≤ y ∧ y ≤ 9) (ho2 : o ≠ 2) (ho3 : o ≠ 3) (ho4 : o ≠ 4) (hfar : ∀ m, figAt es x = some m → m = k ∨ nearB (entN es k) (entN es m) = false) :
    Calls Tryz.prog 63 #[.agg #[.slice a0 n0 c0, .slice a1 16 c1, .slice a2 n2 c2], .int .i64 k, .agg #[.int .i64 c, .int .i64 n, .int .i64 o, .int .i64 x, .int .i64 y]] w (RetX X B ⟨es, fl, la⟩ 8 w) := by
  have O := Lib.hid h
  have HN0 := Lib.hid hn0
  have HN1 := Lib.hid hn1
  have HN2 := Lib.hid hn2
  have HP := Lib.hid hp
  have HF := Lib.hid hf
  have hle0 : n0 ≤ c0 := by have := h.e.len; simp only at this; omega
  have hc0m := h.e.max
  unfold maxLen at hc0m
  have hle1 : 16 ≤ c1 := by have := h.f.len; simp only at this; omega
  have hkz : k < es.length := by omega
  obtain ⟨g0, hg0, hgB, hgl, e0, e1, e2, e3, e4, -, hr0⟩ := h.e.entAt (i := k) hkz
  simp only at e0 e1 e2 e3 e4
  subst hg0
  have hPk := hp _ (List.getElem_mem hkz)
  have hGK := entN_get hkz
  clear h hn0 hn1 hn2 hp hf hr0
  rw [hGK] at hfar
  generalize hzk : es[k] = z at *
  have HGK := Lib.hid hGK
  have HZK := Lib.hid hzk
  clear hzk hGK
  go_enter Tryz.func63, Tryz.ntmps63
  go_upto_region 1 with fail
  obtain ⟨W, hW, sW, aW, qW, bW, kW⟩ := blocks3 w (.cells #[.slice (some ⟨g0, 0, none⟩) n0 c0, .slice a1 16 c1, .slice a2 n2 c2] 27) (.cells #[.int .i64 c, .int .i64 n, .int .i64 o, .int .i64 x, .int .i64 y] 79) (.cells #[.slice none 0 0, .slice none 0 0, .slice none 0 0] 27)
  rw [← hW]
  clear hW
  have f0 := (kW.cell (p := ⟨g0, _, none⟩) hgl).trans e0
  have f1 := (kW.cell (p := ⟨g0, _, none⟩) hgl).trans e1
  have f2 := (kW.cell (p := ⟨g0, _, none⟩) hgl).trans e2
  have f3 := (kW.cell (p := ⟨g0, _, none⟩) hgl).trans e3
  have f4 := (kW.cell (p := ⟨g0, _, none⟩) hgl).trans e4
  have cA := cell_of_block aW
  have hk0 : (0 : Int) ≤ (k : Int) := by omega
  have hk1 : (k : Int) < (n0 : Int) := by omega
  go_upto_region 2 with fail
  obtain ⟨X, hX, sX, dX, kX⟩ := blocks1 W (.cells #[.int .i64 z.c, .int .i64 z.n, .int .i64 z.o, .int .i64 z.x, .int .i64 z.y] 44)
  rw [← hX]
  clear hX
  rw [sW] at dX
  replace aW := carryN kX aW
  replace bW := carryN kX bW
  replace qW := carryN kX qW
  have KX := Lib.hid (below_next kW kX)
  have lX : w.heap.size + 3 < X.heap.size := by omega
  clear kW kX sX sW f0 f1 f2 f3 f4 e0 e1 e2 e3 e4 cA
  have cA := cell_of_block aW
  have cQ := cell_of_block qW
  have cD := cell_of_block dX
  have fD := unfrozen_of_block dX
  have cB := cell_of_block bW
  have fB := unfrozen_of_block bW
  have lA := lt_of_block aW
  have lB := lt_of_block bW
  have lQ := lt_of_block qW
  have lD := lt_of_block dX
  have ne_ : ¬ (w.heap.size = w.heap.size + 1) := by omega
  have ne_ : ¬ (w.heap.size + 1 = w.heap.size) := by omega
  have ne_ : ¬ (w.heap.size = w.heap.size + 2) := by omega
  have ne_ : ¬ (w.heap.size + 2 = w.heap.size) := by omega
  have ne_ : ¬ (w.heap.size = w.heap.size + 3) := by omega
  have ne_ : ¬ (w.heap.size + 3 = w.heap.size) := by omega
  have ne_ : ¬ (w.heap.size + 1 = w.heap.size + 3) := by omega
  have ne_ : ¬ (w.heap.size + 3 = w.heap.size + 1) := by omega
  have ne_ : ¬ (w.heap.size + 2 = w.heap.size + 3) := by omega
  have ne_ : ¬ (w.heap.size + 3 = w.heap.size + 2) := by omega
  have hob2 : (o == 2) = false := by simpa using ho2
  have hob3 : (o == 3) = false := by simpa using ho3
  have hob4 : (o == 4) = false := by simpa using ho4
  have CL := Lib.hid (fun (V : World) (kk : Below X.heap.size X V) => l2At_c es x (some ⟨g0, 0, none⟩) a1 a2 n0 16 n2 c0 c1 c2 V (((O.out.below KX.out).e.slG five_len HN0.out).below kk))
  go_wp2_with fail
  refine (CL.out X (Below.refl _ _)).mono ?_
  rintro e w1 ⟨rfl, k1⟩
  rw [figI_opt]
  replace aW := carryN k1 aW
  replace bW := carryN k1 bW
  replace qW := carryN k1 qW
  replace dX := carryN k1 dX
  replace KX := Lib.hid (below_next KX.out k1)
  have lX1 : w.heap.size + 3 < w1.heap.size := lt_of_block dX
  clear CL lX k1 cA cQ cD fD cB fB lA lB lQ lD
  have hfar2 : (optI (figAt es x) < 0 ∨ optI (figAt es x) = (k : Int)) ∨ ∃ m, figAt es x = some m ∧ m ≠ k ∧ nearB z (entN es m) = false := by
    cases hfa : figAt es x with
    | none => exact .inl (.inl (by decide))
    | some m =>
      rcases hfar m hfa with h | h
      · exact .inl (.inr (by rw [h]; rfl))
      · by_cases hmk : m = k
        · exact .inl (.inr (by rw [hmk]; rfl))
        · exact .inr ⟨m, rfl, hmk, h⟩
  clear hfar
  rcases hfar2 with hm | ⟨m, hfa, hmk, hnr⟩
  · obtain ⟨m, hmm⟩ : ∃ m, m = optI (figAt es x) := ⟨_, rfl⟩
    rw [← hmm] at hm ⊢
    clear hmm
    rcases hm with hm | hm
    · have hmd : decide (m < 0) = true := by simp; omega
      go_wp2_with fail
      refine wp_region_quiet_below (by kernel_rfl) (by kernel_rfl) ?_
      repeat (go_big_quiet_step (fail))
      refine wpQuiet_nil ?_
      intro _ hw'
      obtain ⟨⟨dq, osq⟩, hw''⟩ := hw'
      subst hw''
      have hkb := below_regrown w1 dq osq
      replace aW := carryN hkb aW
      replace bW := carryN hkb bW
      replace qW := carryN hkb qW
      replace dX := carryN hkb dX
      replace KX := Lib.hid (below_next KX.out hkb)
      clear hkb
      generalize Sort.grow (redrawn w1 dq) osq = X2 at *
      have cA := cell_of_block aW
      have cQ := cell_of_block qW
      have cD := cell_of_block dX
      have fD := unfrozen_of_block dX
      have cB := cell_of_block bW
      have fB := unfrozen_of_block bW
      have lA := lt_of_block aW
      have lB := lt_of_block bW
      have lQ := lt_of_block qW
      have lD := lt_of_block dX
      go_wp2_with fail
      refine bodyPost_ret (v := .tuple #[.agg #[.slice (some ⟨g0, 0, none⟩) n0 c0, .slice a1 16 c1, .slice a2 n2 c2], .int .i64 8]) (by simp [results, Tryz.results63, go_sem, cB]) rfl ?_
      have KX' := KX.out
      exact ⟨_, rfl, (O.out.below (by repeat' (first | with_reducible exact Below.refl _ _ | with_reducible assumption | with_reducible refine Below.alloc ?_ ?_ _ | with_reducible refine Below.drew ?_ | with_reducible refine Below.setCell ?_ ?_ _ | omega | (simp; omega) | (simp; done)))).gmV HN0.out HN1.out HN2.out, (by repeat' (first | with_reducible exact Below.refl _ _ | with_reducible assumption | with_reducible refine Below.alloc ?_ ?_ _ | with_reducible refine Below.drew ?_ | with_reducible refine Below.setCell ?_ ?_ _ | omega | (simp; omega) | (simp; done)))⟩
    · have hmd : decide (m < 0) = false := by simp; omega
      have hm0 : ¬ m < 0 := by omega
      subst hm
      go_wp2_with fail
      refine wp_region_quiet_below (by kernel_rfl) (by kernel_rfl) ?_
      repeat (go_big_quiet_step (fail))
      refine wpQuiet_nil ?_
      intro _ hw'
      obtain ⟨⟨dq, osq⟩, hw''⟩ := hw'
      subst hw''
      have hkb := below_regrown w1 dq osq
      replace aW := carryN hkb aW
      replace bW := carryN hkb bW
      replace qW := carryN hkb qW
      replace dX := carryN hkb dX
      replace KX := Lib.hid (below_next KX.out hkb)
      clear hkb
      generalize Sort.grow (redrawn w1 dq) osq = X2 at *
      have cA := cell_of_block aW
      have cQ := cell_of_block qW
      have cD := cell_of_block dX
      have fD := unfrozen_of_block dX
      have cB := cell_of_block bW
      have fB := unfrozen_of_block bW
      have lA := lt_of_block aW
      have lB := lt_of_block bW
      have lQ := lt_of_block qW
      have lD := lt_of_block dX
      go_wp2_with fail
      refine bodyPost_ret (v := .tuple #[.agg #[.slice (some ⟨g0, 0, none⟩) n0 c0, .slice a1 16 c1, .slice a2 n2 c2], .int .i64 8]) (by simp [results, Tryz.results63, go_sem, cB]) rfl ?_
      have KX' := KX.out
      exact ⟨_, rfl, (O.out.below (by repeat' (first | with_reducible exact Below.refl _ _ | with_reducible assumption | with_reducible refine Below.alloc ?_ ?_ _ | with_reducible refine Below.drew ?_ | with_reducible refine Below.setCell ?_ ?_ _ | omega | (simp; omega) | (simp; done)))).gmV HN0.out HN1.out HN2.out, (by repeat' (first | with_reducible exact Below.refl _ _ | with_reducible assumption | with_reducible refine Below.alloc ?_ ?_ _ | with_reducible refine Below.drew ?_ | with_reducible refine Below.setCell ?_ ?_ _ | omega | (simp; omega) | (simp; done)))⟩
  · obtain ⟨hml, -⟩ := figAt_some hfa
    rw [hfa]
    have hm0 : optI (some m) = (m : Int) := rfl
    rw [hm0]
    clear hm0 hfa
    have hmn0 : m < n0 := by rw [← HN0.out]; exact hml
    obtain ⟨g1, hg1, -, hg1l, d0, d1, d2, d3, d4, -, -⟩ := (O.out.below KX.out).e.entAt (i := m) hml
    injection hg1 with hg1
    injection hg1 with hg1
    subst hg1
    simp only at d0 d1 d2 d3 d4
    have hPm := HP.out _ (List.getElem_mem hml)
    have HGN := Lib.hid (entN_get hml)
    rw [entN_get hml] at hnr
    generalize hzm : es[m] = zm at *
    have HZM := Lib.hid hzm
    clear hzm
    have y0 := cell_regrown d0
    have y1 := cell_regrown d1
    have y2 := cell_regrown d2
    have y3 := cell_regrown d3
    have y4 := cell_regrown d4
    have ga := cellRe aW
    have gd := cellRe dX
    have cN := quietC (w := w1) (fun V _ => l2Near_c z zm V ⟨hPk.1.1, hPk.1.2, hPk.2.1.1, hPk.2.1.2⟩ ⟨hPm.1.1, hPm.1.2, hPm.2.1.1, hPm.2.1.2⟩)
    rw [hnr] at cN
    have hmd : decide ((m : Int) < 0) = false := by simp
    have hmn : ¬ (m : Int) < 0 := by omega
    have hmkb : ((m : Int) == (k : Int)) = false := by simp; omega
    have hmk2 : ¬ (m : Int) = (k : Int) := by omega
    have hm0' : (0 : Int) ≤ (m : Int) := by omega
    have hm1' : (m : Int) < (n0 : Int) := by omega
    clear d0 d1 d2 d3 d4 hnr
    go_wp2_with fail
    refine wp_region_quiet_below (by kernel_rfl) (by kernel_rfl) ?_
    repeat (go_big_quiet_step (first | with_reducible exact cN _ _))
    refine wpQuiet_nil ?_
    intro _ hw'
    obtain ⟨⟨dq, osq⟩, hw''⟩ := hw'
    subst hw''
    have hkb := below_regrown w1 dq osq
    replace aW := carryN hkb aW
    replace bW := carryN hkb bW
    replace qW := carryN hkb qW
    replace dX := carryN hkb dX
    replace KX := Lib.hid (below_next KX.out hkb)
    clear hkb
    generalize Sort.grow (redrawn w1 dq) osq = X2 at *
    clear y0 y1 y2 y3 y4 ga gd cN
    have cA := cell_of_block aW
    have cQ := cell_of_block qW
    have cD := cell_of_block dX
    have fD := unfrozen_of_block dX
    have cB := cell_of_block bW
    have fB := unfrozen_of_block bW
    have lA := lt_of_block aW
    have lB := lt_of_block bW
    have lQ := lt_of_block qW
    have lD := lt_of_block dX
    go_wp2_with fail
    refine bodyPost_ret (v := .tuple #[.agg #[.slice (some ⟨g0, 0, none⟩) n0 c0, .slice a1 16 c1, .slice a2 n2 c2], .int .i64 8]) (by simp [results, Tryz.results63, go_sem, cB]) rfl ?_
    have KX' := KX.out
    exact ⟨_, rfl, (O.out.below (by repeat' (first | with_reducible exact Below.refl _ _ | with_reducible assumption | with_reducible refine Below.alloc ?_ ?_ _ | with_reducible refine Below.drew ?_ | with_reducible refine Below.setCell ?_ ?_ _ | omega | (simp; omega) | (simp; done)))).gmV HN0.out HN1.out HN2.out, (by repeat' (first | with_reducible exact Below.refl _ _ | with_reducible assumption | with_reducible refine Below.alloc ?_ ?_ _ | with_reducible refine Below.drew ?_ | with_reducible refine Below.setCell ?_ ?_ _ | omega | (simp; omega) | (simp; done)))⟩
set_option maxRecDepth 100000 in
set_option maxHeartbeats 8000000 in
theorem l2Act_give_poor {B : Nat} {X : Nat → Prop} (es : List Rq) (fl la : List Int) (k n0 n2 : Nat) (a0 a1 a2 : Option Addr) (c0 c1 c2 : Nat) (c n o x y : Int) (w : World) (h : OwnX X w B a0 c0 a1 c1 a2 c2 ⟨es, fl, la⟩) (hn0 : es.length = n0) (hn1 : fl.length = 16) (hn2 : la.length = n2) (hk : k < n0) (h4 : n0 ≤ 4) (hB : B ≤ w.heap.size) (hp : Places es) (hf : ∀ n ∈ fl, 0 ≤ n ∧ n ≤ 20)
    (hx : -1 ≤ x ∧ x ≤ 4) (hy : -1 ≤ y ∧ y ≤ 9) (ho2 : o ≠ 2) (ho3 : o ≠ 3) (ho4 : o ≠ 4) (m : Nat) (hfa : figAt es x = some m) (hmk : m ≠ k) (hnr : nearB (entN es k) (entN es m) = true) (hpo : (entN es k).y < y) :
    Calls Tryz.prog 63 #[.agg #[.slice a0 n0 c0, .slice a1 16 c1, .slice a2 n2 c2], .int .i64 k, .agg #[.int .i64 c, .int .i64 n, .int .i64 o, .int .i64 x, .int .i64 y]] w (RetX X B ⟨es, fl, la⟩ 7 w) := by
  have O := Lib.hid h
  have HN0 := Lib.hid hn0
  have HN1 := Lib.hid hn1
  have HN2 := Lib.hid hn2
  have HP := Lib.hid hp
  have HF := Lib.hid hf
  have hle0 : n0 ≤ c0 := by have := h.e.len; simp only at this; omega
  have hc0m := h.e.max
  unfold maxLen at hc0m
  have hle1 : 16 ≤ c1 := by have := h.f.len; simp only at this; omega
  have hkz : k < es.length := by omega
  obtain ⟨g0, hg0, hgB, hgl, e0, e1, e2, e3, e4, -, hr0⟩ := h.e.entAt (i := k) hkz
  simp only at e0 e1 e2 e3 e4
  subst hg0
  have hPk := hp _ (List.getElem_mem hkz)
  have hGK := entN_get hkz
  clear h hn0 hn1 hn2 hp hf hr0
  rw [hGK] at hnr hpo
  generalize hzk : es[k] = z at *
  have HGK := Lib.hid hGK
  have HZK := Lib.hid hzk
  clear hzk hGK
  go_enter Tryz.func63, Tryz.ntmps63
  go_upto_region 1 with fail
  obtain ⟨W, hW, sW, aW, qW, bW, kW⟩ := blocks3 w (.cells #[.slice (some ⟨g0, 0, none⟩) n0 c0, .slice a1 16 c1, .slice a2 n2 c2] 27) (.cells #[.int .i64 c, .int .i64 n, .int .i64 o, .int .i64 x, .int .i64 y] 79) (.cells #[.slice none 0 0, .slice none 0 0, .slice none 0 0] 27)
  rw [← hW]
  clear hW
  have f0 := (kW.cell (p := ⟨g0, _, none⟩) hgl).trans e0
  have f1 := (kW.cell (p := ⟨g0, _, none⟩) hgl).trans e1
  have f2 := (kW.cell (p := ⟨g0, _, none⟩) hgl).trans e2
  have f3 := (kW.cell (p := ⟨g0, _, none⟩) hgl).trans e3
  have f4 := (kW.cell (p := ⟨g0, _, none⟩) hgl).trans e4
  have cA := cell_of_block aW
  have hk0 : (0 : Int) ≤ (k : Int) := by omega
  have hk1 : (k : Int) < (n0 : Int) := by omega
  go_upto_region 2 with fail
  obtain ⟨X, hX, sX, dX, kX⟩ := blocks1 W (.cells #[.int .i64 z.c, .int .i64 z.n, .int .i64 z.o, .int .i64 z.x, .int .i64 z.y] 44)
  rw [← hX]
  clear hX
  rw [sW] at dX
  replace aW := carryN kX aW
  replace bW := carryN kX bW
  replace qW := carryN kX qW
  have KX := Lib.hid (below_next kW kX)
  have lX : w.heap.size + 3 < X.heap.size := by omega
  clear kW kX sX sW f0 f1 f2 f3 f4 e0 e1 e2 e3 e4 cA
  have cA := cell_of_block aW
  have cQ := cell_of_block qW
  have cD := cell_of_block dX
  have fD := unfrozen_of_block dX
  have cB := cell_of_block bW
  have fB := unfrozen_of_block bW
  have lA := lt_of_block aW
  have lB := lt_of_block bW
  have lQ := lt_of_block qW
  have lD := lt_of_block dX
  have ne_ : ¬ (w.heap.size = w.heap.size + 1) := by omega
  have ne_ : ¬ (w.heap.size + 1 = w.heap.size) := by omega
  have ne_ : ¬ (w.heap.size = w.heap.size + 2) := by omega
  have ne_ : ¬ (w.heap.size + 2 = w.heap.size) := by omega
  have ne_ : ¬ (w.heap.size = w.heap.size + 3) := by omega
  have ne_ : ¬ (w.heap.size + 3 = w.heap.size) := by omega
  have ne_ : ¬ (w.heap.size + 1 = w.heap.size + 3) := by omega
  have ne_ : ¬ (w.heap.size + 3 = w.heap.size + 1) := by omega
  have ne_ : ¬ (w.heap.size + 2 = w.heap.size + 3) := by omega
  have ne_ : ¬ (w.heap.size + 3 = w.heap.size + 2) := by omega
  have hob2 : (o == 2) = false := by simpa using ho2
  have hob3 : (o == 3) = false := by simpa using ho3
  have hob4 : (o == 4) = false := by simpa using ho4
  have CL := Lib.hid (fun (V : World) (kk : Below X.heap.size X V) => l2At_c es x (some ⟨g0, 0, none⟩) a1 a2 n0 16 n2 c0 c1 c2 V (((O.out.below KX.out).e.slG five_len HN0.out).below kk))
  go_wp2_with fail
  refine (CL.out X (Below.refl _ _)).mono ?_
  rintro e w1 ⟨rfl, k1⟩
  rw [figI_opt]
  replace aW := carryN k1 aW
  replace bW := carryN k1 bW
  replace qW := carryN k1 qW
  replace dX := carryN k1 dX
  replace KX := Lib.hid (below_next KX.out k1)
  have lX1 : w.heap.size + 3 < w1.heap.size := lt_of_block dX
  clear CL lX k1 cA cQ cD fD cB fB lA lB lQ lD
  obtain ⟨hml, -⟩ := figAt_some hfa
  rw [hfa]
  have hm0 : optI (some m) = (m : Int) := rfl
  rw [hm0]
  clear hm0 hfa
  have hmn0 : m < n0 := by rw [← HN0.out]; exact hml
  obtain ⟨g1, hg1, -, hg1l, d0, d1, d2, d3, d4, -, -⟩ := (O.out.below KX.out).e.entAt (i := m) hml
  injection hg1 with hg1
  injection hg1 with hg1
  subst hg1
  simp only at d0 d1 d2 d3 d4
  have hPm := HP.out _ (List.getElem_mem hml)
  have HGN := Lib.hid (entN_get hml)
  rw [entN_get hml] at hnr
  generalize hzm : es[m] = zm at *
  have HZM := Lib.hid hzm
  clear hzm
  have y0 := cell_regrown d0
  have y1 := cell_regrown d1
  have y2 := cell_regrown d2
  have y3 := cell_regrown d3
  have y4 := cell_regrown d4
  have ga := cellRe aW
  have gd := cellRe dX
  have cN := quietC (w := w1) (fun V _ => l2Near_c z zm V ⟨hPk.1.1, hPk.1.2, hPk.2.1.1, hPk.2.1.2⟩ ⟨hPm.1.1, hPm.1.2, hPm.2.1.1, hPm.2.1.2⟩)
  rw [hnr] at cN
  have hmd : decide ((m : Int) < 0) = false := by simp
  have hmn : ¬ (m : Int) < 0 := by omega
  have hmkb : ((m : Int) == (k : Int)) = false := by simp; omega
  have hmk2 : ¬ (m : Int) = (k : Int) := by omega
  have hm0' : (0 : Int) ≤ (m : Int) := by omega
  have hm1' : (m : Int) < (n0 : Int) := by omega
  clear d0 d1 d2 d3 d4 hnr
  go_wp2_with fail
  refine wp_region_quiet_below (by kernel_rfl) (by kernel_rfl) ?_
  repeat (go_big_quiet_step (first | with_reducible exact cN _ _))
  refine wpQuiet_nil ?_
  intro _ hw'
  obtain ⟨⟨dq, osq⟩, hw''⟩ := hw'
  subst hw''
  have hkb := below_regrown w1 dq osq
  replace aW := carryN hkb aW
  replace bW := carryN hkb bW
  replace qW := carryN hkb qW
  replace dX := carryN hkb dX
  replace KX := Lib.hid (below_next KX.out hkb)
  clear hkb
  generalize Sort.grow (redrawn w1 dq) osq = X2 at *
  clear y0 y1 y2 y3 y4 ga gd cN
  have cA := cell_of_block aW
  have cQ := cell_of_block qW
  have cD := cell_of_block dX
  have fD := unfrozen_of_block dX
  have cB := cell_of_block bW
  have fB := unfrozen_of_block bW
  have lA := lt_of_block aW
  have lB := lt_of_block bW
  have lQ := lt_of_block qW
  have lD := lt_of_block dX
  go_wp2_with fail
  refine bodyPost_ret (v := .tuple #[.agg #[.slice (some ⟨g0, 0, none⟩) n0 c0, .slice a1 16 c1, .slice a2 n2 c2], .int .i64 7]) (by simp [results, Tryz.results63, go_sem, cB]) rfl ?_
  have KX' := KX.out
  exact ⟨_, rfl, (O.out.below (by repeat' (first | with_reducible exact Below.refl _ _ | with_reducible assumption | with_reducible refine Below.alloc ?_ ?_ _ | with_reducible refine Below.drew ?_ | with_reducible refine Below.setCell ?_ ?_ _ | omega | (simp; omega) | (simp; done)))).gmV HN0.out HN1.out HN2.out, (by repeat' (first | with_reducible exact Below.refl _ _ | with_reducible assumption | with_reducible refine Below.alloc ?_ ?_ _ | with_reducible refine Below.drew ?_ | with_reducible refine Below.setCell ?_ ?_ _ | omega | (simp; omega) | (simp; done)))⟩
set_option maxRecDepth 100000 in
set_option maxHeartbeats 8000000 in
theorem l2Act_give {B : Nat} {X : Nat → Prop} (es : List Rq) (fl la : List Int) (k n0 n2 : Nat) (a0 a1 a2 : Option Addr) (c0 c1 c2 : Nat) (c n o x y : Int) (w : World) (h : OwnX X w B a0 c0 a1 c1 a2 c2 ⟨es, fl, la⟩) (hn0 : es.length = n0) (hn1 : fl.length = 16) (hn2 : la.length = n2) (hk : k < n0) (h4 : n0 ≤ 4) (hB : B ≤ w.heap.size) (hp : Places es) (hf : ∀ n ∈ fl, 0 ≤ n ∧ n ≤ 20)
    (hx : -1 ≤ x ∧ x ≤ 4) (hy : -1 ≤ y ∧ y ≤ 9) (ho2 : o ≠ 2) (ho3 : o ≠ 3) (ho4 : o ≠ 4) (m : Nat) (hfa : figAt es x = some m) (hmk : m ≠ k) (hnr : nearB (entN es k) (entN es m) = true) (hpo : ¬ (entN es k).y < y) :
    Calls Tryz.prog 63 #[.agg #[.slice a0 n0 c0, .slice a1 16 c1, .slice a2 n2 c2], .int .i64 k, .agg #[.int .i64 c, .int .i64 n, .int .i64 o, .int .i64 x, .int .i64 y]] w (RetX X B ⟨(es.set m { (entN es m) with y := (entN es m).y + y }).set k { (entN es k) with y := (entN es k).y - y }, fl, la⟩ 0 w) := by
  have O := Lib.hid h
  have HN0 := Lib.hid hn0
  have HN1 := Lib.hid hn1
  have HN2 := Lib.hid hn2
  have HP := Lib.hid hp
  have HF := Lib.hid hf
  have hle0 : n0 ≤ c0 := by have := h.e.len; simp only at this; omega
  have hc0m := h.e.max
  unfold maxLen at hc0m
  have hle1 : 16 ≤ c1 := by have := h.f.len; simp only at this; omega
  have hkz : k < es.length := by omega
  obtain ⟨g0, hg0, hgB, hgl, e0, e1, e2, e3, e4, -, hr0⟩ := h.e.entAt (i := k) hkz
  simp only at e0 e1 e2 e3 e4
  subst hg0
  have hPk := hp _ (List.getElem_mem hkz)
  have hGK := entN_get hkz
  clear h hn0 hn1 hn2 hp hf hr0
  rw [hGK] at hnr hpo
  generalize hzk : es[k] = z at *
  have HGK := Lib.hid hGK
  have HZK := Lib.hid hzk
  clear hzk hGK
  go_enter Tryz.func63, Tryz.ntmps63
  go_upto_region 1 with fail
  obtain ⟨W, hW, sW, aW, qW, bW, kW⟩ := blocks3 w (.cells #[.slice (some ⟨g0, 0, none⟩) n0 c0, .slice a1 16 c1, .slice a2 n2 c2] 27) (.cells #[.int .i64 c, .int .i64 n, .int .i64 o, .int .i64 x, .int .i64 y] 79) (.cells #[.slice none 0 0, .slice none 0 0, .slice none 0 0] 27)
  rw [← hW]
  clear hW
  have f0 := (kW.cell (p := ⟨g0, _, none⟩) hgl).trans e0
  have f1 := (kW.cell (p := ⟨g0, _, none⟩) hgl).trans e1
  have f2 := (kW.cell (p := ⟨g0, _, none⟩) hgl).trans e2
  have f3 := (kW.cell (p := ⟨g0, _, none⟩) hgl).trans e3
  have f4 := (kW.cell (p := ⟨g0, _, none⟩) hgl).trans e4
  have cA := cell_of_block aW
  have hk0 : (0 : Int) ≤ (k : Int) := by omega
  have hk1 : (k : Int) < (n0 : Int) := by omega
  go_upto_region 2 with fail
  obtain ⟨X, hX, sX, dX, kX⟩ := blocks1 W (.cells #[.int .i64 z.c, .int .i64 z.n, .int .i64 z.o, .int .i64 z.x, .int .i64 z.y] 44)
  rw [← hX]
  clear hX
  rw [sW] at dX
  replace aW := carryN kX aW
  replace bW := carryN kX bW
  replace qW := carryN kX qW
  have KX := Lib.hid (below_next kW kX)
  have lX : w.heap.size + 3 < X.heap.size := by omega
  clear kW kX sX sW f0 f1 f2 f3 f4 e0 e1 e2 e3 e4 cA
  have cA := cell_of_block aW
  have cQ := cell_of_block qW
  have cD := cell_of_block dX
  have fD := unfrozen_of_block dX
  have cB := cell_of_block bW
  have fB := unfrozen_of_block bW
  have lA := lt_of_block aW
  have lB := lt_of_block bW
  have lQ := lt_of_block qW
  have lD := lt_of_block dX
  have ne_ : ¬ (w.heap.size = w.heap.size + 1) := by omega
  have ne_ : ¬ (w.heap.size + 1 = w.heap.size) := by omega
  have ne_ : ¬ (w.heap.size = w.heap.size + 2) := by omega
  have ne_ : ¬ (w.heap.size + 2 = w.heap.size) := by omega
  have ne_ : ¬ (w.heap.size = w.heap.size + 3) := by omega
  have ne_ : ¬ (w.heap.size + 3 = w.heap.size) := by omega
  have ne_ : ¬ (w.heap.size + 1 = w.heap.size + 3) := by omega
  have ne_ : ¬ (w.heap.size + 3 = w.heap.size + 1) := by omega
  have ne_ : ¬ (w.heap.size + 2 = w.heap.size + 3) := by omega
  have ne_ : ¬ (w.heap.size + 3 = w.heap.size + 2) := by omega
  have hob2 : (o == 2) = false := by simpa using ho2
  have hob3 : (o == 3) = false := by simpa using ho3
  have hob4 : (o == 4) = false := by simpa using ho4
  have CL := Lib.hid (fun (V : World) (kk : Below X.heap.size X V) => l2At_c es x (some ⟨g0, 0, none⟩) a1 a2 n0 16 n2 c0 c1 c2 V (((O.out.below KX.out).e.slG five_len HN0.out).below kk))
  go_wp2_with fail
  refine (CL.out X (Below.refl _ _)).mono ?_
  rintro e w1 ⟨rfl, k1⟩
  rw [figI_opt]
  replace aW := carryN k1 aW
  replace bW := carryN k1 bW
  replace qW := carryN k1 qW
  replace dX := carryN k1 dX
  replace KX := Lib.hid (below_next KX.out k1)
  have lX1 : w.heap.size + 3 < w1.heap.size := lt_of_block dX
  clear CL lX k1 cA cQ cD fD cB fB lA lB lQ lD
  obtain ⟨hml, -⟩ := figAt_some hfa
  rw [hfa]
  have hm0 : optI (some m) = (m : Int) := rfl
  rw [hm0]
  clear hm0 hfa
  have hmn0 : m < n0 := by rw [← HN0.out]; exact hml
  obtain ⟨g1, hg1, -, hg1l, d0, d1, d2, d3, d4, -, -⟩ := (O.out.below KX.out).e.entAt (i := m) hml
  injection hg1 with hg1
  injection hg1 with hg1
  subst hg1
  simp only at d0 d1 d2 d3 d4
  have hPm := HP.out _ (List.getElem_mem hml)
  have HGN := Lib.hid (entN_get hml)
  rw [entN_get hml] at hnr
  generalize hzm : es[m] = zm at *
  have HZM := Lib.hid hzm
  clear hzm
  have y0 := cell_regrown d0
  have y1 := cell_regrown d1
  have y2 := cell_regrown d2
  have y3 := cell_regrown d3
  have y4 := cell_regrown d4
  have ga := cellRe aW
  have gd := cellRe dX
  have cN := quietC (w := w1) (fun V _ => l2Near_c z zm V ⟨hPk.1.1, hPk.1.2, hPk.2.1.1, hPk.2.1.2⟩ ⟨hPm.1.1, hPm.1.2, hPm.2.1.1, hPm.2.1.2⟩)
  rw [hnr] at cN
  have hmd : decide ((m : Int) < 0) = false := by simp
  have hmn : ¬ (m : Int) < 0 := by omega
  have hmkb : ((m : Int) == (k : Int)) = false := by simp; omega
  have hmk2 : ¬ (m : Int) = (k : Int) := by omega
  have hm0' : (0 : Int) ≤ (m : Int) := by omega
  have hm1' : (m : Int) < (n0 : Int) := by omega
  clear d0 d1 d2 d3 d4 hnr
  go_wp2_with fail
  refine wp_region_quiet_below (by kernel_rfl) (by kernel_rfl) ?_
  repeat (go_big_quiet_step (first | with_reducible exact cN _ _))
  refine wpQuiet_nil ?_
  intro _ hw'
  obtain ⟨⟨dq, osq⟩, hw''⟩ := hw'
  subst hw''
  have hkb := below_regrown w1 dq osq
  replace aW := carryN hkb aW
  replace bW := carryN hkb bW
  replace qW := carryN hkb qW
  replace dX := carryN hkb dX
  replace KX := Lib.hid (below_next KX.out hkb)
  clear hkb
  generalize Sort.grow (redrawn w1 dq) osq = X2 at *
  clear y0 y1 y2 y3 y4 ga gd cN
  have cA := cell_of_block aW
  have cQ := cell_of_block qW
  have cD := cell_of_block dX
  have fD := unfrozen_of_block dX
  have cB := cell_of_block bW
  have fB := unfrozen_of_block bW
  have lA := lt_of_block aW
  have lB := lt_of_block bW
  have lQ := lt_of_block qW
  have lD := lt_of_block dX
  have hpo2 : ¬ z.y < y := by omega
  have hm3 : IntKind.i64.wrap (z.y - y) = z.y - y := IntWalk.i64_in _ ⟨by omega, by omega⟩
  have hm4 : IntKind.i64.wrap (zm.y + y) = zm.y + y := IntWalk.i64_in _ ⟨by omega, by omega⟩
  go_upto_region 9 with fail
  obtain ⟨U, hU⟩ : ∃ U, U = X2.setCell ⟨w.heap.size + 3, 4, none⟩ (.int .i64 (z.y - y)) := ⟨_, rfl⟩
  have dU := block_setCell (i := 4) dX (.int .i64 (z.y - y))
  have aU := (Below.heap_setCell X2 ⟨w.heap.size + 3, 4, none⟩ (.int .i64 (z.y - y)) _ (by simp)).trans aW
  have bU := (Below.heap_setCell X2 ⟨w.heap.size + 3, 4, none⟩ (.int .i64 (z.y - y)) _ (by simp)).trans bW
  have qU := (Below.heap_setCell X2 ⟨w.heap.size + 3, 4, none⟩ (.int .i64 (z.y - y)) _ (by simp)).trans qW
  have KU := Lib.hid (Below.setCell KX.out (p := ⟨w.heap.size + 3, 4, none⟩) (by simp) (.int .i64 (z.y - y)))
  rw [← hU] at dU aU bU qU KU ⊢
  simp only [List.setIfInBounds_toArray, List.set] at dU
  clear hU dX aW bW qW KX cA cQ cD fD cB fB lA lB lQ lD
  have cA := cell_of_block aU
  have lA := lt_of_block aU
  have HRU := Lib.hid ((O.out.below KU.out).e.rows five_len)
  go_upto_region 10 with (at_builtin; refine wpList_append_new (U.heap.size + 1) rfl (.tmp 52) (.tmp 54) rfl eltEnt rfl rfl (HRU.out.below (by repeat' (first | with_reducible exact Below.refl _ _ | with_reducible assumption | with_reducible refine Below.alloc ?_ ?_ _ | with_reducible refine Below.drew ?_ | with_reducible refine Below.setCell ?_ ?_ _ | omega | (simp; omega) | (simp; done)))) HN0.out (by simp only [maxLen]; omega) (by omega) (by simp <;> omega) ?_; intro x1 d1 v1 q1; have k1 := ((Below.refl U.heap.size U).alloc (Nat.le_refl _) (.cells #[] 44)).trans (q1.below.mono (by simp <;> omega)); have cA := cell_of_block (carryN k1 aU); have fA := unfrozen_of_block (carryN k1 aU))
  obtain ⟨Y, hY⟩ : ∃ Y, Y = v1.setCell ⟨w.heap.size, 0, none⟩ (.slice x1 n0 d1) := ⟨_, rfl⟩
  have R1 := Lib.hid (show Row (v1.setCell ⟨w.heap.size, 0, none⟩ (.slice x1 n0 d1)) U.heap.size 44 x1 d1 5 Rq.cs es from (q1.row.low (Nat.le_succ _)).setType (carryN k1 aU) (by decide) 0 (.slice x1 n0 d1))
  have aY := block_setCell (i := 0) (carryN k1 aU) (.slice x1 n0 d1)
  have bY := (Below.heap_setCell v1 ⟨w.heap.size, 0, none⟩ (.slice x1 n0 d1) _ (by simp)).trans (carryN k1 bU)
  have dY := (Below.heap_setCell v1 ⟨w.heap.size, 0, none⟩ (.slice x1 n0 d1) _ (by simp)).trans (carryN k1 dU)
  have qY := (Below.heap_setCell v1 ⟨w.heap.size, 0, none⟩ (.slice x1 n0 d1) _ (by simp)).trans (carryN k1 qU)
  have KY := Lib.hid (Below.setCell (below_next KU.out k1) (p := ⟨w.heap.size, 0, none⟩) (Nat.le_refl _) (.slice x1 n0 d1))
  have lU := lt_of_block dU
  rw [← hY] at R1 aY bY dY qY KY ⊢
  simp only [List.setIfInBounds_toArray, List.set] at aY
  clear hY q1 k1 cA fA aU bU dU qU KU HRU lA
  obtain ⟨g2, hg2, hg2B, hg2l, -, -, -, -, f4, ff, hr2⟩ := R1.out.entAt (i := m) hml
  subst hg2
  rw [HZM.out] at f4
  have R2 := Lib.hid (R1.out.setOne five_len hml (j := 4) (by decide) ({ zm with y := zm.y + y } : Rq) (.int .i64 (zm.y + y)) rfl (fun j' h1 h2 => by
    rw [HZM.out]
    have : j' = 0 ∨ j' = 1 ∨ j' = 2 ∨ j' = 3 := by omega
    rcases this with rfl | rfl | rfl | rfl <;> rfl) rfl).drew
  have ff4 := ff (m * 5 + 4)
  clear ff
  have cA := cell_of_block aY
  have lA := lt_of_block aY
  have cQ := cell_of_block qY
  have lQ := lt_of_block qY
  have hg2w : w.heap.size + 3 < g2 := by omega
  have ne_ : ¬ (w.heap.size = g2) := by omega
  have ne_ : ¬ (g2 = w.heap.size) := by omega
  have ne_ : ¬ (w.heap.size + 1 = g2) := by omega
  have ne_ : ¬ (g2 = w.heap.size + 1) := by omega
  go_still_tail 14, (by kernel_rfl)
  change wpList _ _ _ _ _ Y.drew
  go_upto_region 25 with fail
  obtain ⟨Z, hZ⟩ : ∃ Z, Z = (Y.setCell ⟨g2, m * 5 + 4, none⟩ (.int .i64 (zm.y + y))).drew := ⟨_, rfl⟩
  have aZ : (Y.setCell ⟨g2, m * 5 + 4, none⟩ (.int .i64 (zm.y + y))).drew.heap[w.heap.size]? = _ := (Below.heap_setCell Y ⟨g2, m * 5 + 4, none⟩ (.int .i64 (zm.y + y)) _ (by simp; omega)).trans aY
  have bZ : (Y.setCell ⟨g2, m * 5 + 4, none⟩ (.int .i64 (zm.y + y))).drew.heap[w.heap.size + 2]? = _ := (Below.heap_setCell Y ⟨g2, m * 5 + 4, none⟩ (.int .i64 (zm.y + y)) _ (by simp; omega)).trans bY
  have dZ : (Y.setCell ⟨g2, m * 5 + 4, none⟩ (.int .i64 (zm.y + y))).drew.heap[w.heap.size + 3]? = _ := (Below.heap_setCell Y ⟨g2, m * 5 + 4, none⟩ (.int .i64 (zm.y + y)) _ (by simp; omega)).trans dY
  have KZ := Lib.hid (Below.setCell KY.out (p := ⟨g2, m * 5 + 4, none⟩) (show w.heap.size ≤ g2 by omega) (.int .i64 (zm.y + y))).drew
  rw [← hZ] at R2 aZ bZ dZ KZ ⊢
  clear hZ aY bY dY qY KY cA cQ lA lQ R1 f4 ff4
  have aW := aZ
  have bW := bZ
  have dX := dZ
  have KX := KZ
  clear aZ bZ dZ KZ
  have HRE := Lib.hid (R2.out.rows five_len)
  have lCur := lt_of_block dX
  obtain ⟨ez, hez⟩ : ∃ ez : Rq, ez = { z with y := z.y - y } := ⟨_, rfl⟩
  have HEZ := Lib.hid hez
  have dE : Z.heap[w.heap.size + 3]? = some (.cells #[.int .i64 ez.c, .int .i64 ez.n, .int .i64 ez.o, .int .i64 ez.x, .int .i64 ez.y] 44 (0, 0)) := by rw [hez]; exact dX
  clear dX hez
  have cA := cell_of_block aW
  have lA := lt_of_block aW
  have lB := lt_of_block bW
  have lD := lt_of_block dE
  go_upto_region 26 with (at_builtin; refine wpList_append_new (Z.heap.size + 1) rfl (.tmp 147) (.tmp 149) rfl eltEnt rfl rfl (HRE.out.below (by repeat' (first | with_reducible exact Below.refl _ _ | with_reducible assumption | with_reducible refine Below.alloc ?_ ?_ _ | with_reducible refine Below.drew ?_ | with_reducible refine Below.setCell ?_ ?_ _ | omega | (simp; omega) | (simp; done)))) (by rw [List.length_set]; exact HN0.out) (by simp only [maxLen]; omega) (by omega) (by simp <;> omega) ?_; intro x9 d9 w9 q9; have k9 := ((Below.refl Z.heap.size Z).alloc (Nat.le_refl _) (.cells #[] 44)).trans (q9.below.mono (by simp <;> omega)); have cA := cell_of_block (carryN k9 aW); have fA := unfrozen_of_block (carryN k9 aW))
  obtain ⟨S, hS⟩ : ∃ S, S = w9.setCell ⟨w.heap.size, 0, none⟩ (.slice x9 n0 d9) := ⟨_, rfl⟩
  have R9 := Lib.hid (show Row (w9.setCell ⟨w.heap.size, 0, none⟩ (.slice x9 n0 d9)) Z.heap.size 44 x9 d9 5 Rq.cs (es.set m { zm with y := zm.y + y }) from (q9.row.low (Nat.le_succ _)).setType (carryN k9 aW) (by decide) 0 (.slice x9 n0 d9))
  have aS := block_setCell (i := 0) (carryN k9 aW) (.slice x9 n0 d9)
  have bS := (Below.heap_setCell w9 ⟨w.heap.size, 0, none⟩ (.slice x9 n0 d9) _ (by simp)).trans (carryN k9 bW)
  have dS := (Below.heap_setCell w9 ⟨w.heap.size, 0, none⟩ (.slice x9 n0 d9) _ (by simp)).trans (carryN k9 dE)
  have KS := Lib.hid (Below.setCell (below_next KX.out k9) (p := ⟨w.heap.size, 0, none⟩) (Nat.le_refl _) (.slice x9 n0 d9))
  rw [← hS] at R9 aS bS dS KS ⊢
  simp only [List.setIfInBounds_toArray, List.set] at aS
  clear hS q9 k9 cA fA aW bW dE lA lB lD HRE KX
  obtain ⟨g9, hg9, hg9B, hg9l, s0, s1, s2, s3, s4, ff, hr9⟩ := R9.out.entAt (i := k) (by first | exact hkz | (simp only [List.length_set]; exact hkz))
  subst hg9
  have ff0 := ff (k * 5)
  have ff1 := ff (k * 5 + 1)
  have ff2 := ff (k * 5 + 2)
  have ff3 := ff (k * 5 + 3)
  have ff4 := ff (k * 5 + 4)
  clear ff
  have cA := cell_of_block aS
  have cD := cell_of_block dS
  have lA := lt_of_block aS
  have lB := lt_of_block bS
  have lD := lt_of_block dS
  have hg9w : w.heap.size + 3 < g9 := by omega
  have ne_ : ¬ (w.heap.size = g9) := by omega
  have ne_ : ¬ (g9 = w.heap.size) := by omega
  have ne_ : ¬ (w.heap.size + 3 = g9) := by omega
  have ne_ : ¬ (g9 = w.heap.size + 3) := by omega
  go_upto_region 27 with fail
  obtain ⟨V, hV⟩ : ∃ V, V = five5 S g9 (k * 5) ez := ⟨_, rfl⟩
  have RV := Lib.hid (R9.out.setFive (k := k) (by first | exact hkz | (simp only [List.length_set]; exact hkz)) ez)
  have aV := (block_kept5 (w := S) (g := g9) (o := k * 5) (b := w.heap.size) (by omega) ez).trans aS
  have bV := (block_kept5 (w := S) (g := g9) (o := k * 5) (b := w.heap.size + 2) (by omega) ez).trans bS
  have KV := Lib.hid (below_set5 KS.out (show w.heap.size ≤ g9 by omega) (k * 5) ez)
  have hV2 := hV
  unfold five5 at hV2
  rw [← hV] at RV aV bV KV
  rw [← hV2]
  clear hV hV2 aS bS dS R9 KS s0 s1 s2 s3 s4 ff0 ff1 ff2 ff3 ff4 cA cD lA lB lD
  have cA := cell_of_block aV
  have cB := cell_of_block bV
  have fB := unfrozen_of_block bV
  have lA := lt_of_block aV
  have lB := lt_of_block bV
  have KF := Lib.hid (below_set3 KV.out (show w.heap.size ≤ w.heap.size + 2 by omega) (.slice (some ⟨g9, 0, none⟩) n0 d9) (.slice a1 16 c1) (.slice a2 n2 c2))
  have RVF := Lib.hid (((RV.out.setType bV (by decide) 0 (.slice (some ⟨g9, 0, none⟩) n0 d9)).setType (block_setCell bV _) (by decide) 1 (.slice a1 16 c1)).setType (block_setCell (block_setCell bV _) _) (by decide) 2 (.slice a2 n2 c2))
  go_wp2_with fail
  refine bodyPost_ret (v := .tuple #[.agg #[.slice (some ⟨g9, 0, none⟩) n0 d9, .slice a1 16 c1, .slice a2 n2 c2], .int .i64 0]) (by simp [results, Tryz.results63, go_sem, cB]) rfl ?_
  rw [HGK.out, HGN.out, ← HEZ.out]
  exact ⟨_, rfl, (O.out.newE KF.out RVF.out (by omega) hB).gmV (by simp only [List.length_set]; exact HN0.out) HN1.out HN2.out, KF.out⟩
end Go.Proofs.YtilldpoleiippaaGreatDoor
