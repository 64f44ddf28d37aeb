/- The reference's l2Act; condition: small sizes. -/
import Derived.Test.YtilldpoleiippaaGreatDoorOwnX
import Derived.Test.YtilldpoleiippaaGreatDoorHitG
set_option linter.unusedSimpArgs false
set_option linter.unusedVariables false
namespace Go.Proofs.YtilldpoleiippaaGreatDoor
open Go.RowKit Go.Joins

set_option maxRecDepth 100000 in
set_option maxHeartbeats 8000000 in
theorem l2Act_move_no {B : Nat} {X : Nat → Prop} (es : List Rq) (fl la : List Int) (k n0 n2 : Nat) (a0 a1 a2 : Option Addr) (c0 c1 c2 : Nat) (c n x y : Int) (w : World) (h : OwnX X w B a0 c0 a1 c1 a2 c2 ⟨es, fl, la⟩) (hn0 : es.length = n0) (hn1 : fl.length = 16) (hn2 : la.length = n2) (hk : k < n0) (h4 : n0 ≤ 4) (hB : B ≤ w.heap.size) (hp : Places es) (hf : ∀ n ∈ fl, 0 ≤ n ∧ n ≤ 20)
    (hx : -1 ≤ x ∧ x ≤ 4) (hy : -1 ≤ y ∧ y ≤ 9) (hb : (inB ((entN es k).n + x) 0 3 && inB ((entN es k).o + y) 0 3) = false) :
    Calls Tryz.prog 63 #[.agg #[.slice a0 n0 c0, .slice a1 16 c1, .slice a2 n2 c2], .int .i64 k, .agg #[.int .i64 c, .int .i64 n, .int .i64 2, .int .i64 x, .int .i64 y]] w (RetX X B ⟨es, fl, la⟩ 6 w) := by
  have O := Lib.hid h
  have HN0 := Lib.hid hn0
  have HN1 := Lib.hid hn1
  have HN2 := Lib.hid hn2
  have HP := Lib.hid hp
  have HF := Lib.hid hf
  have hle0 : n0 ≤ c0 := by have := h.e.len; simp only at this; omega
  have hc0m := h.e.max
  unfold maxLen at hc0m
  have hle1 : 16 ≤ c1 := by have := h.f.len; simp only at this; omega
  have hkz : k < es.length := by omega
  obtain ⟨g0, hg0, hgB, hgl, e0, e1, e2, e3, e4, -, hr0⟩ := h.e.entAt (i := k) hkz
  simp only at e0 e1 e2 e3 e4
  subst hg0
  have hPk := hp _ (List.getElem_mem hkz)
  have hGK := entN_get hkz
  clear h hn0 hn1 hn2 hp hf hr0
  rw [hGK] at hb
  generalize hzk : es[k] = z at *
  have HGK := Lib.hid hGK
  have HZK := Lib.hid hzk
  clear hzk hGK
  go_enter Tryz.func63, Tryz.ntmps63
  go_upto_region 1 with fail
  obtain ⟨W, hW, sW, aW, qW, bW, kW⟩ := blocks3 w (.cells #[.slice (some ⟨g0, 0, none⟩) n0 c0, .slice a1 16 c1, .slice a2 n2 c2] 27) (.cells #[.int .i64 c, .int .i64 n, .int .i64 2, .int .i64 x, .int .i64 y] 79) (.cells #[.slice none 0 0, .slice none 0 0, .slice none 0 0] 27)
  rw [← hW]
  clear hW
  have f0 := (kW.cell (p := ⟨g0, _, none⟩) hgl).trans e0
  have f1 := (kW.cell (p := ⟨g0, _, none⟩) hgl).trans e1
  have f2 := (kW.cell (p := ⟨g0, _, none⟩) hgl).trans e2
  have f3 := (kW.cell (p := ⟨g0, _, none⟩) hgl).trans e3
  have f4 := (kW.cell (p := ⟨g0, _, none⟩) hgl).trans e4
  have cA := cell_of_block aW
  have hk0 : (0 : Int) ≤ (k : Int) := by omega
  have hk1 : (k : Int) < (n0 : Int) := by omega
  go_upto_region 2 with fail
  obtain ⟨X, hX, sX, dX, kX⟩ := blocks1 W (.cells #[.int .i64 z.c, .int .i64 z.n, .int .i64 z.o, .int .i64 z.x, .int .i64 z.y] 44)
  rw [← hX]
  clear hX
  rw [sW] at dX
  replace aW := carryN kX aW
  replace bW := carryN kX bW
  replace qW := carryN kX qW
  have KX := Lib.hid (below_next kW kX)
  have lX : w.heap.size + 3 < X.heap.size := by omega
  clear kW kX sX sW f0 f1 f2 f3 f4 e0 e1 e2 e3 e4 cA
  have cA := cell_of_block aW
  have cQ := cell_of_block qW
  have cD := cell_of_block dX
  have fD := unfrozen_of_block dX
  have cB := cell_of_block bW
  have fB := unfrozen_of_block bW
  have lA := lt_of_block aW
  have lB := lt_of_block bW
  have lQ := lt_of_block qW
  have lD := lt_of_block dX
  have ne_ : ¬ (w.heap.size = w.heap.size + 1) := by omega
  have ne_ : ¬ (w.heap.size + 1 = w.heap.size) := by omega
  have ne_ : ¬ (w.heap.size = w.heap.size + 2) := by omega
  have ne_ : ¬ (w.heap.size + 2 = w.heap.size) := by omega
  have ne_ : ¬ (w.heap.size = w.heap.size + 3) := by omega
  have ne_ : ¬ (w.heap.size + 3 = w.heap.size) := by omega
  have ne_ : ¬ (w.heap.size + 1 = w.heap.size + 3) := by omega
  have ne_ : ¬ (w.heap.size + 3 = w.heap.size + 1) := by omega
  have ne_ : ¬ (w.heap.size + 2 = w.heap.size + 3) := by omega
  have ne_ : ¬ (w.heap.size + 3 = w.heap.size + 2) := by omega
  have HCQ := cQ
  have hm1 : IntKind.i64.wrap (z.n + x) = z.n + x := IntWalk.i64_in _ ⟨by omega, by omega⟩
  have hm2 : IntKind.i64.wrap (z.o + y) = z.o + y := IntWalk.i64_in _ ⟨by omega, by omega⟩
  cases hb1 : inB (z.n + x) 0 3 with
  | false =>
    go_wp2_with (go_at_call 43; refine (l1In_c _ _ _ _).mono ?_; rintro e w' ⟨rfl, rfl⟩)
    refine bodyPost_ret (v := .tuple #[.agg #[.slice (some ⟨g0, 0, none⟩) n0 c0, .slice a1 16 c1, .slice a2 n2 c2], .int .i64 6]) (by simp [results, Tryz.results63, go_sem, cB]) rfl ?_
    have KX' := KX.out
    exact ⟨_, rfl, (O.out.below (by repeat' (first | with_reducible exact Below.refl _ _ | with_reducible assumption | with_reducible refine Below.alloc ?_ ?_ _ | with_reducible refine Below.drew ?_ | with_reducible refine Below.setCell ?_ ?_ _ | omega | (simp; omega) | (simp; done)))).gmV HN0.out HN1.out HN2.out, (by repeat' (first | with_reducible exact Below.refl _ _ | with_reducible assumption | with_reducible refine Below.alloc ?_ ?_ _ | with_reducible refine Below.drew ?_ | with_reducible refine Below.setCell ?_ ?_ _ | omega | (simp; omega) | (simp; done)))⟩
  | true =>
    have hb2 : inB (z.o + y) 0 3 = false := by rw [hb1, Bool.true_and] at hb; exact hb
    go_wp2_with (go_at_call 43; refine (l1In_c _ _ _ _).mono ?_; rintro e w' ⟨rfl, rfl⟩)
    refine bodyPost_ret (v := .tuple #[.agg #[.slice (some ⟨g0, 0, none⟩) n0 c0, .slice a1 16 c1, .slice a2 n2 c2], .int .i64 6]) (by simp [results, Tryz.results63, go_sem, cB]) rfl ?_
    have KX' := KX.out
    exact ⟨_, rfl, (O.out.below (by repeat' (first | with_reducible exact Below.refl _ _ | with_reducible assumption | with_reducible refine Below.alloc ?_ ?_ _ | with_reducible refine Below.drew ?_ | with_reducible refine Below.setCell ?_ ?_ _ | omega | (simp; omega) | (simp; done)))).gmV HN0.out HN1.out HN2.out, (by repeat' (first | with_reducible exact Below.refl _ _ | with_reducible assumption | with_reducible refine Below.alloc ?_ ?_ _ | with_reducible refine Below.drew ?_ | with_reducible refine Below.setCell ?_ ?_ _ | omega | (simp; omega) | (simp; done)))⟩
set_option maxRecDepth 100000 in
set_option maxHeartbeats 8000000 in
theorem l2Act_move {B : Nat} {X : Nat → Prop} (es : List Rq) (fl la : List Int) (k n0 n2 : Nat) (a0 a1 a2 : Option Addr) (c0 c1 c2 : Nat) (c n x y : Int) (w : World) (h : OwnX X w B a0 c0 a1 c1 a2 c2 ⟨es, fl, la⟩) (hn0 : es.length = n0) (hn1 : fl.length = 16) (hn2 : la.length = n2) (hk : k < n0) (h4 : n0 ≤ 4) (hB : B ≤ w.heap.size) (hp : Places es) (hf : ∀ n ∈ fl, 0 ≤ n ∧ n ≤ 20)
    (hx : -1 ≤ x ∧ x ≤ 4) (hy : -1 ≤ y ∧ y ≤ 9) (hb : (inB ((entN es k).n + x) 0 3 && inB ((entN es k).o + y) 0 3) = true) :
    Calls Tryz.prog 63 #[.agg #[.slice a0 n0 c0, .slice a1 16 c1, .slice a2 n2 c2], .int .i64 k, .agg #[.int .i64 c, .int .i64 n, .int .i64 2, .int .i64 x, .int .i64 y]] w (RetX X B ⟨es.set k { (entN es k) with n := (entN es k).n + x, o := (entN es k).o + y }, fl, la⟩ 0 w) := by
  have O := Lib.hid h
  have HN0 := Lib.hid hn0
  have HN1 := Lib.hid hn1
  have HN2 := Lib.hid hn2
  have HP := Lib.hid hp
  have HF := Lib.hid hf
  have hle0 : n0 ≤ c0 := by have := h.e.len; simp only at this; omega
  have hc0m := h.e.max
  unfold maxLen at hc0m
  have hle1 : 16 ≤ c1 := by have := h.f.len; simp only at this; omega
  have hkz : k < es.length := by omega
  obtain ⟨g0, hg0, hgB, hgl, e0, e1, e2, e3, e4, -, hr0⟩ := h.e.entAt (i := k) hkz
  simp only at e0 e1 e2 e3 e4
  subst hg0
  have hPk := hp _ (List.getElem_mem hkz)
  have hGK := entN_get hkz
  clear h hn0 hn1 hn2 hp hf hr0
  rw [hGK] at hb
  generalize hzk : es[k] = z at *
  have HGK := Lib.hid hGK
  have HZK := Lib.hid hzk
  clear hzk hGK
  go_enter Tryz.func63, Tryz.ntmps63
  go_upto_region 1 with fail
  obtain ⟨W, hW, sW, aW, qW, bW, kW⟩ := blocks3 w (.cells #[.slice (some ⟨g0, 0, none⟩) n0 c0, .slice a1 16 c1, .slice a2 n2 c2] 27) (.cells #[.int .i64 c, .int .i64 n, .int .i64 2, .int .i64 x, .int .i64 y] 79) (.cells #[.slice none 0 0, .slice none 0 0, .slice none 0 0] 27)
  rw [← hW]
  clear hW
  have f0 := (kW.cell (p := ⟨g0, _, none⟩) hgl).trans e0
  have f1 := (kW.cell (p := ⟨g0, _, none⟩) hgl).trans e1
  have f2 := (kW.cell (p := ⟨g0, _, none⟩) hgl).trans e2
  have f3 := (kW.cell (p := ⟨g0, _, none⟩) hgl).trans e3
  have f4 := (kW.cell (p := ⟨g0, _, none⟩) hgl).trans e4
  have cA := cell_of_block aW
  have hk0 : (0 : Int) ≤ (k : Int) := by omega
  have hk1 : (k : Int) < (n0 : Int) := by omega
  go_upto_region 2 with fail
  obtain ⟨X, hX, sX, dX, kX⟩ := blocks1 W (.cells #[.int .i64 z.c, .int .i64 z.n, .int .i64 z.o, .int .i64 z.x, .int .i64 z.y] 44)
  rw [← hX]
  clear hX
  rw [sW] at dX
  replace aW := carryN kX aW
  replace bW := carryN kX bW
  replace qW := carryN kX qW
  have KX := Lib.hid (below_next kW kX)
  have lX : w.heap.size + 3 < X.heap.size := by omega
  clear kW kX sX sW f0 f1 f2 f3 f4 e0 e1 e2 e3 e4 cA
  have cA := cell_of_block aW
  have cQ := cell_of_block qW
  have cD := cell_of_block dX
  have fD := unfrozen_of_block dX
  have cB := cell_of_block bW
  have fB := unfrozen_of_block bW
  have lA := lt_of_block aW
  have lB := lt_of_block bW
  have lQ := lt_of_block qW
  have lD := lt_of_block dX
  have ne_ : ¬ (w.heap.size = w.heap.size + 1) := by omega
  have ne_ : ¬ (w.heap.size + 1 = w.heap.size) := by omega
  have ne_ : ¬ (w.heap.size = w.heap.size + 2) := by omega
  have ne_ : ¬ (w.heap.size + 2 = w.heap.size) := by omega
  have ne_ : ¬ (w.heap.size = w.heap.size + 3) := by omega
  have ne_ : ¬ (w.heap.size + 3 = w.heap.size) := by omega
  have ne_ : ¬ (w.heap.size + 1 = w.heap.size + 3) := by omega
  have ne_ : ¬ (w.heap.size + 3 = w.heap.size + 1) := by omega
  have ne_ : ¬ (w.heap.size + 2 = w.heap.size + 3) := by omega
  have ne_ : ¬ (w.heap.size + 3 = w.heap.size + 2) := by omega
  have hm1 : IntKind.i64.wrap (z.n + x) = z.n + x := IntWalk.i64_in _ ⟨by omega, by omega⟩
  have hm2 : IntKind.i64.wrap (z.o + y) = z.o + y := IntWalk.i64_in _ ⟨by omega, by omega⟩
  simp only [Bool.and_eq_true] at hb
  obtain ⟨hb1, hb2⟩ := hb
  go_upto_region 25 with (go_at_call 43; refine (l1In_c _ _ _ _).mono ?_; rintro e w' ⟨rfl, rfl⟩)
  obtain ⟨Y, hY⟩ : ∃ Y, Y = (X.setCell ⟨w.heap.size + 3, 1, none⟩ (.int .i64 (z.n + x))).setCell ⟨w.heap.size + 3, 2, none⟩ (.int .i64 (z.o + y)) := ⟨_, rfl⟩
  have dY := block_setCell (i := 2) (block_setCell (i := 1) dX (.int .i64 (z.n + x))) (.int .i64 (z.o + y))
  have aY := (Below.heap_setCell (X.setCell ⟨w.heap.size + 3, 1, none⟩ (.int .i64 (z.n + x))) ⟨w.heap.size + 3, 2, none⟩ (.int .i64 (z.o + y)) _ (by simp)).trans ((Below.heap_setCell X ⟨w.heap.size + 3, 1, none⟩ (.int .i64 (z.n + x)) _ (by simp)).trans aW)
  have bY := (Below.heap_setCell (X.setCell ⟨w.heap.size + 3, 1, none⟩ (.int .i64 (z.n + x))) ⟨w.heap.size + 3, 2, none⟩ (.int .i64 (z.o + y)) _ (by simp)).trans ((Below.heap_setCell X ⟨w.heap.size + 3, 1, none⟩ (.int .i64 (z.n + x)) _ (by simp)).trans bW)
  have KY := Lib.hid (Below.setCell (Below.setCell KX.out (p := ⟨w.heap.size + 3, 1, none⟩) (by simp) (.int .i64 (z.n + x))) (p := ⟨w.heap.size + 3, 2, none⟩) (by simp) (.int .i64 (z.o + y)))
  rw [← hY] at dY aY bY KY ⊢
  simp only [List.setIfInBounds_toArray, List.set] at dY
  clear hY dX aW bW qW KX cA cQ cD fD cB fB lA lB lQ lD lX
  have aW := aY
  have bW := bY
  have dX := dY
  have KX := KY
  clear aY bY dY KY
  have HRE := Lib.hid ((O.out.below KX.out).e.rows five_len)
  have lCur := lt_of_block dX
  obtain ⟨ez, hez⟩ : ∃ ez : Rq, ez = { z with n := z.n + x, o := z.o + y } := ⟨_, rfl⟩
  have HEZ := Lib.hid hez
  have dE : Y.heap[w.heap.size + 3]? = some (.cells #[.int .i64 ez.c, .int .i64 ez.n, .int .i64 ez.o, .int .i64 ez.x, .int .i64 ez.y] 44 (0, 0)) := by rw [hez]; exact dX
  clear dX hez
  have cA := cell_of_block aW
  have lA := lt_of_block aW
  have lB := lt_of_block bW
  have lD := lt_of_block dE
  go_upto_region 26 with (at_builtin; refine wpList_append_new (Y.heap.size + 1) rfl (.tmp 147) (.tmp 149) rfl eltEnt rfl rfl (HRE.out.below (by repeat' (first | with_reducible exact Below.refl _ _ | with_reducible assumption | with_reducible refine Below.alloc ?_ ?_ _ | with_reducible refine Below.drew ?_ | with_reducible refine Below.setCell ?_ ?_ _ | omega | (simp; omega) | (simp; done)))) HN0.out (by simp only [maxLen]; omega) (by omega) (by simp <;> omega) ?_; intro x9 d9 w9 q9; have k9 := ((Below.refl Y.heap.size Y).alloc (Nat.le_refl _) (.cells #[] 44)).trans (q9.below.mono (by simp <;> omega)); have cA := cell_of_block (carryN k9 aW); have fA := unfrozen_of_block (carryN k9 aW))
  obtain ⟨S, hS⟩ : ∃ S, S = w9.setCell ⟨w.heap.size, 0, none⟩ (.slice x9 n0 d9) := ⟨_, rfl⟩
  have R9 := Lib.hid (show Row (w9.setCell ⟨w.heap.size, 0, none⟩ (.slice x9 n0 d9)) Y.heap.size 44 x9 d9 5 Rq.cs (es) from (q9.row.low (Nat.le_succ _)).setType (carryN k9 aW) (by decide) 0 (.slice x9 n0 d9))
  have aS := block_setCell (i := 0) (carryN k9 aW) (.slice x9 n0 d9)
  have bS := (Below.heap_setCell w9 ⟨w.heap.size, 0, none⟩ (.slice x9 n0 d9) _ (by simp)).trans (carryN k9 bW)
  have dS := (Below.heap_setCell w9 ⟨w.heap.size, 0, none⟩ (.slice x9 n0 d9) _ (by simp)).trans (carryN k9 dE)
  have KS := Lib.hid (Below.setCell (below_next KX.out k9) (p := ⟨w.heap.size, 0, none⟩) (Nat.le_refl _) (.slice x9 n0 d9))
  rw [← hS] at R9 aS bS dS KS ⊢
  simp only [List.setIfInBounds_toArray, List.set] at aS
  clear hS q9 k9 cA fA aW bW dE lA lB lD HRE KX
  obtain ⟨g9, hg9, hg9B, hg9l, s0, s1, s2, s3, s4, ff, hr9⟩ := R9.out.entAt (i := k) (by first | exact hkz | (simp only [List.length_set]; exact hkz))
  subst hg9
  have ff0 := ff (k * 5)
  have ff1 := ff (k * 5 + 1)
  have ff2 := ff (k * 5 + 2)
  have ff3 := ff (k * 5 + 3)
  have ff4 := ff (k * 5 + 4)
  clear ff
  have cA := cell_of_block aS
  have cD := cell_of_block dS
  have lA := lt_of_block aS
  have lB := lt_of_block bS
  have lD := lt_of_block dS
  have hg9w : w.heap.size + 3 < g9 := by omega
  have ne_ : ¬ (w.heap.size = g9) := by omega
  have ne_ : ¬ (g9 = w.heap.size) := by omega
  have ne_ : ¬ (w.heap.size + 3 = g9) := by omega
  have ne_ : ¬ (g9 = w.heap.size + 3) := by omega
  go_upto_region 27 with fail
  obtain ⟨V, hV⟩ : ∃ V, V = five5 S g9 (k * 5) ez := ⟨_, rfl⟩
  have RV := Lib.hid (R9.out.setFive (k := k) (by first | exact hkz | (simp only [List.length_set]; exact hkz)) ez)
  have aV := (block_kept5 (w := S) (g := g9) (o := k * 5) (b := w.heap.size) (by omega) ez).trans aS
  have bV := (block_kept5 (w := S) (g := g9) (o := k * 5) (b := w.heap.size + 2) (by omega) ez).trans bS
  have KV := Lib.hid (below_set5 KS.out (show w.heap.size ≤ g9 by omega) (k * 5) ez)
  have hV2 := hV
  unfold five5 at hV2
  rw [← hV] at RV aV bV KV
  rw [← hV2]
  clear hV hV2 aS bS dS R9 KS s0 s1 s2 s3 s4 ff0 ff1 ff2 ff3 ff4 cA cD lA lB lD
  have cA := cell_of_block aV
  have cB := cell_of_block bV
  have fB := unfrozen_of_block bV
  have lA := lt_of_block aV
  have lB := lt_of_block bV
  have KF := Lib.hid (below_set3 KV.out (show w.heap.size ≤ w.heap.size + 2 by omega) (.slice (some ⟨g9, 0, none⟩) n0 d9) (.slice a1 16 c1) (.slice a2 n2 c2))
  have RVF := Lib.hid (((RV.out.setType bV (by decide) 0 (.slice (some ⟨g9, 0, none⟩) n0 d9)).setType (block_setCell bV _) (by decide) 1 (.slice a1 16 c1)).setType (block_setCell (block_setCell bV _) _) (by decide) 2 (.slice a2 n2 c2))
  go_wp2_with fail
  refine bodyPost_ret (v := .tuple #[.agg #[.slice (some ⟨g9, 0, none⟩) n0 d9, .slice a1 16 c1, .slice a2 n2 c2], .int .i64 0]) (by simp [results, Tryz.results63, go_sem, cB]) rfl ?_
  rw [HGK.out, ← HEZ.out]
  exact ⟨_, rfl, (O.out.newE KF.out RVF.out (by omega) hB).gmV (by simp only [List.length_set]; exact HN0.out) HN1.out HN2.out, KF.out⟩
set_option maxRecDepth 100000 in
set_option maxHeartbeats 8000000 in
theorem l2Act_take_no {B : Nat} {X : Nat → Prop} (es : List Rq) (fl la : List Int) (k n0 n2 : Nat) (a0 a1 a2 : Option Addr) (c0 c1 c2 : Nat) (c n x y : Int) (w : World) (h : OwnX X w B a0 c0 a1 c1 a2 c2 ⟨es, fl, la⟩) (hn0 : es.length = n0) (hn1 : fl.length = 16) (hn2 : la.length = n2) (hk : k < n0) (h4 : n0 ≤ 4) (hB : B ≤ w.heap.size) (hp : Places es) (hf : ∀ n ∈ fl, 0 ≤ n ∧ n ≤ 20)
    (hx : -1 ≤ x ∧ x ≤ 4) (hy : -1 ≤ y ∧ y ≤ 9) (hv : fl.getD (sqOf (entN es k)) 0 = 0) :
    Calls Tryz.prog 63 #[.agg #[.slice a0 n0 c0, .slice a1 16 c1, .slice a2 n2 c2], .int .i64 k, .agg #[.int .i64 c, .int .i64 n, .int .i64 3, .int .i64 x, .int .i64 y]] w (RetX X B ⟨es, fl, la⟩ 7 w) := by
  have O := Lib.hid h
  have HN0 := Lib.hid hn0
  have HN1 := Lib.hid hn1
  have HN2 := Lib.hid hn2
  have HP := Lib.hid hp
  have HF := Lib.hid hf
  have hle0 : n0 ≤ c0 := by have := h.e.len; simp only at this; omega
  have hc0m := h.e.max
  unfold maxLen at hc0m
  have hle1 : 16 ≤ c1 := by have := h.f.len; simp only at this; omega
  have hkz : k < es.length := by omega
  obtain ⟨g0, hg0, hgB, hgl, e0, e1, e2, e3, e4, -, hr0⟩ := h.e.entAt (i := k) hkz
  simp only at e0 e1 e2 e3 e4
  subst hg0
  have hPk := hp _ (List.getElem_mem hkz)
  have hGK := entN_get hkz
  clear h hn0 hn1 hn2 hp hf hr0
  rw [hGK] at hv
  generalize hzk : es[k] = z at *
  have HGK := Lib.hid hGK
  have HZK := Lib.hid hzk
  clear hzk hGK
  go_enter Tryz.func63, Tryz.ntmps63
  go_upto_region 1 with fail
  obtain ⟨W, hW, sW, aW, qW, bW, kW⟩ := blocks3 w (.cells #[.slice (some ⟨g0, 0, none⟩) n0 c0, .slice a1 16 c1, .slice a2 n2 c2] 27) (.cells #[.int .i64 c, .int .i64 n, .int .i64 3, .int .i64 x, .int .i64 y] 79) (.cells #[.slice none 0 0, .slice none 0 0, .slice none 0 0] 27)
  rw [← hW]
  clear hW
  have f0 := (kW.cell (p := ⟨g0, _, none⟩) hgl).trans e0
  have f1 := (kW.cell (p := ⟨g0, _, none⟩) hgl).trans e1
  have f2 := (kW.cell (p := ⟨g0, _, none⟩) hgl).trans e2
  have f3 := (kW.cell (p := ⟨g0, _, none⟩) hgl).trans e3
  have f4 := (kW.cell (p := ⟨g0, _, none⟩) hgl).trans e4
  have cA := cell_of_block aW
  have hk0 : (0 : Int) ≤ (k : Int) := by omega
  have hk1 : (k : Int) < (n0 : Int) := by omega
  go_upto_region 2 with fail
  obtain ⟨X, hX, sX, dX, kX⟩ := blocks1 W (.cells #[.int .i64 z.c, .int .i64 z.n, .int .i64 z.o, .int .i64 z.x, .int .i64 z.y] 44)
  rw [← hX]
  clear hX
  rw [sW] at dX
  replace aW := carryN kX aW
  replace bW := carryN kX bW
  replace qW := carryN kX qW
  have KX := Lib.hid (below_next kW kX)
  have lX : w.heap.size + 3 < X.heap.size := by omega
  clear kW kX sX sW f0 f1 f2 f3 f4 e0 e1 e2 e3 e4 cA
  have cA := cell_of_block aW
  have cQ := cell_of_block qW
  have cD := cell_of_block dX
  have fD := unfrozen_of_block dX
  have cB := cell_of_block bW
  have fB := unfrozen_of_block bW
  have lA := lt_of_block aW
  have lB := lt_of_block bW
  have lQ := lt_of_block qW
  have lD := lt_of_block dX
  have ne_ : ¬ (w.heap.size = w.heap.size + 1) := by omega
  have ne_ : ¬ (w.heap.size + 1 = w.heap.size) := by omega
  have ne_ : ¬ (w.heap.size = w.heap.size + 2) := by omega
  have ne_ : ¬ (w.heap.size + 2 = w.heap.size) := by omega
  have ne_ : ¬ (w.heap.size = w.heap.size + 3) := by omega
  have ne_ : ¬ (w.heap.size + 3 = w.heap.size) := by omega
  have ne_ : ¬ (w.heap.size + 1 = w.heap.size + 3) := by omega
  have ne_ : ¬ (w.heap.size + 3 = w.heap.size + 1) := by omega
  have ne_ : ¬ (w.heap.size + 2 = w.heap.size + 3) := by omega
  have ne_ : ¬ (w.heap.size + 3 = w.heap.size + 2) := by omega
  have HS := Lib.hid (show sqOf z = (z.o * 4 + z.n).toNat from rfl)
  obtain ⟨q, hq, hq2⟩ : ∃ q : Nat, z.o * 4 + z.n = (q : Int) ∧ q < 16 := ⟨(z.o * 4 + z.n).toNat, by omega, by omega⟩
  have hqs : sqOf z = q := by unfold sqOf; omega
  have hm1 : IntKind.i64.wrap (z.o * 4) = z.o * 4 := IntWalk.i64_in _ ⟨by omega, by omega⟩
  have hm2 : IntKind.i64.wrap (z.o * 4 + z.n) = z.o * 4 + z.n := IntWalk.i64_in _ ⟨by omega, by omega⟩
  have hq0 : (0 : Int) ≤ (q : Int) := by omega
  have hq1 : (q : Int) < 16 := by omega
  obtain ⟨f0, hf0, -, hf0l, ef, -, hrf0⟩ := (O.out.below KX.out).f.intAt (i := q) (by simp only; rw [HN1.out]; exact hq2)
  simp only at ef
  have hqz : q < fl.length := by rw [HN1.out]; exact hq2
  have hfq := HF.out _ (List.getElem_mem hqz)
  rw [hqs, List.getD_eq_getElem?_getD, List.getElem?_eq_getElem hqz, Option.getD_some] at hv
  subst hf0
  rw [hv] at ef
  clear HS hfq
  go_wp2_with fail
  refine bodyPost_ret (v := .tuple #[.agg #[.slice (some ⟨g0, 0, none⟩) n0 c0, .slice (some ⟨f0, 0, none⟩) 16 c1, .slice a2 n2 c2], .int .i64 7]) (by simp [results, Tryz.results63, go_sem, cB]) rfl ?_
  have KX' := KX.out
  exact ⟨_, rfl, (O.out.below (by repeat' (first | with_reducible exact Below.refl _ _ | with_reducible assumption | with_reducible refine Below.alloc ?_ ?_ _ | with_reducible refine Below.drew ?_ | with_reducible refine Below.setCell ?_ ?_ _ | omega | (simp; omega) | (simp; done)))).gmV HN0.out HN1.out HN2.out, (by repeat' (first | with_reducible exact Below.refl _ _ | with_reducible assumption | with_reducible refine Below.alloc ?_ ?_ _ | with_reducible refine Below.drew ?_ | with_reducible refine Below.setCell ?_ ?_ _ | omega | (simp; omega) | (simp; done)))⟩
set_option maxRecDepth 100000 in
set_option maxHeartbeats 8000000 in
theorem l2Act_take {B : Nat} {X : Nat → Prop} (es : List Rq) (fl la : List Int) (k n0 n2 : Nat) (a0 a1 a2 : Option Addr) (c0 c1 c2 : Nat) (c n x y : Int) (w : World) (h : OwnX X w B a0 c0 a1 c1 a2 c2 ⟨es, fl, la⟩) (hn0 : es.length = n0) (hn1 : fl.length = 16) (hn2 : la.length = n2) (hk : k < n0) (h4 : n0 ≤ 4) (hB : B ≤ w.heap.size) (hp : Places es) (hf : ∀ n ∈ fl, 0 ≤ n ∧ n ≤ 20)
    (hx : -1 ≤ x ∧ x ≤ 4) (hy : -1 ≤ y ∧ y ≤ 9) (hv : ¬ fl.getD (sqOf (entN es k)) 0 = 0) :
    Calls Tryz.prog 63 #[.agg #[.slice a0 n0 c0, .slice a1 16 c1, .slice a2 n2 c2], .int .i64 k, .agg #[.int .i64 c, .int .i64 n, .int .i64 3, .int .i64 x, .int .i64 y]] w (RetX X B ⟨es.set k { (entN es k) with y := (entN es k).y + 1 }, addAt fl (sqOf (entN es k)) (-1), la⟩ 0 w) := by
  have O := Lib.hid h
  have HN0 := Lib.hid hn0
  have HN1 := Lib.hid hn1
  have HN2 := Lib.hid hn2
  have HP := Lib.hid hp
  have HF := Lib.hid hf
  have hle0 : n0 ≤ c0 := by have := h.e.len; simp only at this; omega
  have hc0m := h.e.max
  unfold maxLen at hc0m
  have hle1 : 16 ≤ c1 := by have := h.f.len; simp only at this; omega
  have hkz : k < es.length := by omega
  obtain ⟨g0, hg0, hgB, hgl, e0, e1, e2, e3, e4, -, hr0⟩ := h.e.entAt (i := k) hkz
  simp only at e0 e1 e2 e3 e4
  subst hg0
  have hPk := hp _ (List.getElem_mem hkz)
  have hGK := entN_get hkz
  clear h hn0 hn1 hn2 hp hf hr0
  rw [hGK] at hv
  generalize hzk : es[k] = z at *
  have HGK := Lib.hid hGK
  have HZK := Lib.hid hzk
  clear hzk hGK
  go_enter Tryz.func63, Tryz.ntmps63
  go_upto_region 1 with fail
  obtain ⟨W, hW, sW, aW, qW, bW, kW⟩ := blocks3 w (.cells #[.slice (some ⟨g0, 0, none⟩) n0 c0, .slice a1 16 c1, .slice a2 n2 c2] 27) (.cells #[.int .i64 c, .int .i64 n, .int .i64 3, .int .i64 x, .int .i64 y] 79) (.cells #[.slice none 0 0, .slice none 0 0, .slice none 0 0] 27)
  rw [← hW]
  clear hW
  have f0 := (kW.cell (p := ⟨g0, _, none⟩) hgl).trans e0
  have f1 := (kW.cell (p := ⟨g0, _, none⟩) hgl).trans e1
  have f2 := (kW.cell (p := ⟨g0, _, none⟩) hgl).trans e2
  have f3 := (kW.cell (p := ⟨g0, _, none⟩) hgl).trans e3
  have f4 := (kW.cell (p := ⟨g0, _, none⟩) hgl).trans e4
  have cA := cell_of_block aW
  have hk0 : (0 : Int) ≤ (k : Int) := by omega
  have hk1 : (k : Int) < (n0 : Int) := by omega
  go_upto_region 2 with fail
  obtain ⟨X, hX, sX, dX, kX⟩ := blocks1 W (.cells #[.int .i64 z.c, .int .i64 z.n, .int .i64 z.o, .int .i64 z.x, .int .i64 z.y] 44)
  rw [← hX]
  clear hX
  rw [sW] at dX
  replace aW := carryN kX aW
  replace bW := carryN kX bW
  replace qW := carryN kX qW
  have KX := Lib.hid (below_next kW kX)
  have lX : w.heap.size + 3 < X.heap.size := by omega
  clear kW kX sX sW f0 f1 f2 f3 f4 e0 e1 e2 e3 e4 cA
  have cA := cell_of_block aW
  have cQ := cell_of_block qW
  have cD := cell_of_block dX
  have fD := unfrozen_of_block dX
  have cB := cell_of_block bW
  have fB := unfrozen_of_block bW
  have lA := lt_of_block aW
  have lB := lt_of_block bW
  have lQ := lt_of_block qW
  have lD := lt_of_block dX
  have ne_ : ¬ (w.heap.size = w.heap.size + 1) := by omega
  have ne_ : ¬ (w.heap.size + 1 = w.heap.size) := by omega
  have ne_ : ¬ (w.heap.size = w.heap.size + 2) := by omega
  have ne_ : ¬ (w.heap.size + 2 = w.heap.size) := by omega
  have ne_ : ¬ (w.heap.size = w.heap.size + 3) := by omega
  have ne_ : ¬ (w.heap.size + 3 = w.heap.size) := by omega
  have ne_ : ¬ (w.heap.size + 1 = w.heap.size + 3) := by omega
  have ne_ : ¬ (w.heap.size + 3 = w.heap.size + 1) := by omega
  have ne_ : ¬ (w.heap.size + 2 = w.heap.size + 3) := by omega
  have ne_ : ¬ (w.heap.size + 3 = w.heap.size + 2) := by omega
  have HS := Lib.hid (show sqOf z = (z.o * 4 + z.n).toNat from rfl)
  obtain ⟨q, hq, hq2⟩ : ∃ q : Nat, z.o * 4 + z.n = (q : Int) ∧ q < 16 := ⟨(z.o * 4 + z.n).toNat, by omega, by omega⟩
  have hqs : sqOf z = q := by unfold sqOf; omega
  have hm1 : IntKind.i64.wrap (z.o * 4) = z.o * 4 := IntWalk.i64_in _ ⟨by omega, by omega⟩
  have hm2 : IntKind.i64.wrap (z.o * 4 + z.n) = z.o * 4 + z.n := IntWalk.i64_in _ ⟨by omega, by omega⟩
  have hq0 : (0 : Int) ≤ (q : Int) := by omega
  have hq1 : (q : Int) < 16 := by omega
  obtain ⟨f0, hf0, -, hf0l, ef, -, hrf0⟩ := (O.out.below KX.out).f.intAt (i := q) (by simp only; rw [HN1.out]; exact hq2)
  simp only at ef
  have hqz : q < fl.length := by rw [HN1.out]; exact hq2
  have hfq := HF.out _ (List.getElem_mem hqz)
  rw [hqs, List.getD_eq_getElem?_getD, List.getElem?_eq_getElem hqz, Option.getD_some] at hv
  subst hf0
  have HQS := Lib.hid hqs
  have HAD := Lib.hid (show fl.set q (fl[q] - 1) = addAt fl (sqOf z) (-1) by rw [hqs]; unfold addAt; rw [List.getD_eq_getElem?_getD, List.getElem?_eq_getElem hqz]; rfl)
  clear HS hqs
  obtain ⟨v, hvv⟩ : ∃ v, fl[q] = v := ⟨_, rfl⟩
  have HVV := Lib.hid hvv
  rw [hvv] at hv ef hfq HAD
  have hvb : (v == 0) = false := by simpa using hv
  have hm3 : IntKind.i64.wrap (v - 1) = v - 1 := IntWalk.i64_in _ ⟨by omega, by omega⟩
  have hm4 : IntKind.i64.wrap (z.y + 1) = z.y + 1 := IntWalk.i64_in _ ⟨by omega, by omega⟩
  clear hvv
  have HFR := Lib.hid ((O.out.below KX.out).f.rows int_len)
  go_upto_region 21 with (at_builtin; refine wpList_append_new (X.heap.size + 1) rfl (.tmp 117) (.tmp 119) rfl eltInt rfl rfl (HFR.out.below (by repeat' (first | with_reducible exact Below.refl _ _ | with_reducible assumption | with_reducible refine Below.alloc ?_ ?_ _ | with_reducible refine Below.drew ?_ | with_reducible refine Below.setCell ?_ ?_ _ | omega | (simp; omega) | (simp; done)))) HN1.out (by simp only [maxLen]; omega) (by omega) (by simp <;> omega) ?_; intro x1 d1 w1 q1; have k1 := ((Below.refl X.heap.size X).alloc (Nat.le_refl _) (.cells #[] 3)).trans (q1.below.mono (by simp <;> omega)); have cA := cell_of_block (carryN k1 aW); have fA := unfrozen_of_block (carryN k1 aW))
  obtain ⟨Y, hY⟩ : ∃ Y, Y = w1.setCell ⟨w.heap.size, 1, none⟩ (.slice x1 16 d1) := ⟨_, rfl⟩
  have R1 := Lib.hid (show Row (w1.setCell ⟨w.heap.size, 1, none⟩ (.slice x1 16 d1)) X.heap.size 3 x1 d1 1 intR fl from (q1.row.low (Nat.le_succ _)).setType (carryN k1 aW) (by decide) 1 (.slice x1 16 d1))
  have aY := block_setCell (i := 1) (carryN k1 aW) (.slice x1 16 d1)
  have bY := (Below.heap_setCell w1 ⟨w.heap.size, 1, none⟩ (.slice x1 16 d1) _ (by simp)).trans (carryN k1 bW)
  have dY := (Below.heap_setCell w1 ⟨w.heap.size, 1, none⟩ (.slice x1 16 d1) _ (by simp)).trans (carryN k1 dX)
  have KY := Lib.hid (Below.setCell (below_next KX.out k1) (p := ⟨w.heap.size, 1, none⟩) (Nat.le_refl _) (.slice x1 16 d1))
  rw [← hY] at R1 aY bY dY KY ⊢
  simp only [List.setIfInBounds_toArray, List.set] at aY
  have hXl := lX
  clear hY q1 k1 cA fA aW bW dX qW KX HFR cQ cD fD cB fB lA lB lQ lD lX ef
  obtain ⟨f, hf, hfB, hfl, ef, ff, hrf⟩ := R1.out.intAt (i := q) (by rw [HN1.out]; exact hq2)
  rw [HVV.out] at ef
  subst hf
  have HRF := Lib.hid (fun g' (hg' : rowBlk (some ⟨f, 0, none⟩) d1 = some g') => (show w.heap.size + 3 < g' ∧ g' < Y.heap.size by rw [hrf] at hg'; injection hg' with hg'; omega))
  have R2 := Lib.hid (R1.out.setInt (i := q) (by rw [HN1.out]; exact hq2) (v - 1)).drew
  have cA := cell_of_block aY
  have cD := cell_of_block dY
  have lA := lt_of_block aY
  have lD := lt_of_block dY
  have ne_ : ¬ (w.heap.size = f) := by omega
  have ne_ : ¬ (f = w.heap.size) := by omega
  have ne_ : ¬ (w.heap.size + 3 = f) := by omega
  have ne_ : ¬ (f = w.heap.size + 3) := by omega
  go_still_tail 10, (by kernel_rfl)
  change wpList _ _ _ _ _ Y.drew
  go_upto_region 22 with fail
  obtain ⟨Z, hZ⟩ : ∃ Z, Z = (Y.setCell ⟨f, q, none⟩ (.int .i64 (v - 1))).drew := ⟨_, rfl⟩
  have aZ : (Y.setCell ⟨f, q, none⟩ (.int .i64 (v - 1))).drew.heap[w.heap.size]? = _ := (Below.heap_setCell Y ⟨f, q, none⟩ (.int .i64 (v - 1)) _ (by simp; omega)).trans aY
  have bZ : (Y.setCell ⟨f, q, none⟩ (.int .i64 (v - 1))).drew.heap[w.heap.size + 2]? = _ := (Below.heap_setCell Y ⟨f, q, none⟩ (.int .i64 (v - 1)) _ (by simp; omega)).trans bY
  have dZ : (Y.setCell ⟨f, q, none⟩ (.int .i64 (v - 1))).drew.heap[w.heap.size + 3]? = _ := (Below.heap_setCell Y ⟨f, q, none⟩ (.int .i64 (v - 1)) _ (by simp; omega)).trans dY
  have KZ := Lib.hid (Below.setCell KY.out (p := ⟨f, q, none⟩) (show w.heap.size ≤ f by omega) (.int .i64 (v - 1))).drew
  have sZ : Y.heap.size = (Y.setCell ⟨f, q, none⟩ (.int .i64 (v - 1))).drew.heap.size := by simp
  rw [← hZ] at R2 aZ bZ dZ KZ sZ ⊢
  clear hZ aY bY dY cA cD lA lD R1 KY ef ff
  have cD := cell_of_block dZ
  have fD := unfrozen_of_block dZ
  have lD := lt_of_block dZ
  go_upto_region 25 with fail
  obtain ⟨U, hU⟩ : ∃ U, U = Z.setCell ⟨w.heap.size + 3, 4, none⟩ (.int .i64 (z.y + 1)) := ⟨_, rfl⟩
  have dU := block_setCell (i := 4) dZ (.int .i64 (z.y + 1))
  have aU := (Below.heap_setCell Z ⟨w.heap.size + 3, 4, none⟩ (.int .i64 (z.y + 1)) _ (by simp)).trans aZ
  have bU := (Below.heap_setCell Z ⟨w.heap.size + 3, 4, none⟩ (.int .i64 (z.y + 1)) _ (by simp)).trans bZ
  have KU := Lib.hid (Below.setCell KZ.out (p := ⟨w.heap.size + 3, 4, none⟩) (by simp) (.int .i64 (z.y + 1)))
  have RU := Lib.hid (R2.out.setType dZ (by decide) 4 (.int .i64 (z.y + 1)))
  have sU : Z.heap.size = (Z.setCell ⟨w.heap.size + 3, 4, none⟩ (.int .i64 (z.y + 1))).heap.size := by simp
  rw [← hU] at dU aU bU KU RU sU ⊢
  simp only [List.setIfInBounds_toArray, List.set] at dU
  have HRF2 := Lib.hid (fun g' (hg' : rowBlk (some ⟨f, 0, none⟩) d1 = some g') => (show w.heap.size + 3 < g' ∧ g' < U.heap.size by have := HRF.out g' hg'; omega))
  clear hU dZ aZ bZ KZ R2 cD fD lD sU sZ HRF
  have aW := aU
  have bW := bU
  have dX := dU
  have KX := KU
  have HRF := HRF2
  clear aU bU dU KU HRF2
  have HRE := Lib.hid ((O.out.below KX.out).e.rows five_len)
  have lCur := lt_of_block dX
  obtain ⟨ez, hez⟩ : ∃ ez : Rq, ez = { z with y := z.y + 1 } := ⟨_, rfl⟩
  have HEZ := Lib.hid hez
  have dE : U.heap[w.heap.size + 3]? = some (.cells #[.int .i64 ez.c, .int .i64 ez.n, .int .i64 ez.o, .int .i64 ez.x, .int .i64 ez.y] 44 (0, 0)) := by rw [hez]; exact dX
  clear dX hez
  have cA := cell_of_block aW
  have lA := lt_of_block aW
  have lB := lt_of_block bW
  have lD := lt_of_block dE
  go_upto_region 26 with (at_builtin; refine wpList_append_new (U.heap.size + 1) rfl (.tmp 147) (.tmp 149) rfl eltEnt rfl rfl (HRE.out.below (by repeat' (first | with_reducible exact Below.refl _ _ | with_reducible assumption | with_reducible refine Below.alloc ?_ ?_ _ | with_reducible refine Below.drew ?_ | with_reducible refine Below.setCell ?_ ?_ _ | omega | (simp; omega) | (simp; done)))) HN0.out (by simp only [maxLen]; omega) (by omega) (by simp <;> omega) ?_; intro x9 d9 w9 q9; have k9 := ((Below.refl U.heap.size U).alloc (Nat.le_refl _) (.cells #[] 44)).trans (q9.below.mono (by simp <;> omega)); have cA := cell_of_block (carryN k9 aW); have fA := unfrozen_of_block (carryN k9 aW))
  obtain ⟨S, hS⟩ : ∃ S, S = w9.setCell ⟨w.heap.size, 0, none⟩ (.slice x9 n0 d9) := ⟨_, rfl⟩
  have R9 := Lib.hid (show Row (w9.setCell ⟨w.heap.size, 0, none⟩ (.slice x9 n0 d9)) U.heap.size 44 x9 d9 5 Rq.cs (es) from (q9.row.low (Nat.le_succ _)).setType (carryN k9 aW) (by decide) 0 (.slice x9 n0 d9))
  have aS := block_setCell (i := 0) (carryN k9 aW) (.slice x9 n0 d9)
  have bS := (Below.heap_setCell w9 ⟨w.heap.size, 0, none⟩ (.slice x9 n0 d9) _ (by simp)).trans (carryN k9 bW)
  have dS := (Below.heap_setCell w9 ⟨w.heap.size, 0, none⟩ (.slice x9 n0 d9) _ (by simp)).trans (carryN k9 dE)
  have KS := Lib.hid (Below.setCell (below_next KX.out k9) (p := ⟨w.heap.size, 0, none⟩) (Nat.le_refl _) (.slice x9 n0 d9))
  have RF9 := Lib.hid ((RU.out.below k9).setType (carryN k9 aW) (by decide) 0 (.slice x9 n0 d9))
  rw [← hS] at R9 aS bS dS KS RF9 ⊢
  simp only [List.setIfInBounds_toArray, List.set] at aS
  clear hS q9 k9 cA fA aW bW dE lA lB lD HRE KX RU
  obtain ⟨g9, hg9, hg9B, hg9l, s0, s1, s2, s3, s4, ff, hr9⟩ := R9.out.entAt (i := k) (by first | exact hkz | (simp only [List.length_set]; exact hkz))
  subst hg9
  have ff0 := ff (k * 5)
  have ff1 := ff (k * 5 + 1)
  have ff2 := ff (k * 5 + 2)
  have ff3 := ff (k * 5 + 3)
  have ff4 := ff (k * 5 + 4)
  clear ff
  have cA := cell_of_block aS
  have cD := cell_of_block dS
  have lA := lt_of_block aS
  have lB := lt_of_block bS
  have lD := lt_of_block dS
  have hg9w : w.heap.size + 3 < g9 := by omega
  have ne_ : ¬ (w.heap.size = g9) := by omega
  have ne_ : ¬ (g9 = w.heap.size) := by omega
  have ne_ : ¬ (w.heap.size + 3 = g9) := by omega
  have ne_ : ¬ (g9 = w.heap.size + 3) := by omega
  go_upto_region 27 with fail
  obtain ⟨V, hV⟩ : ∃ V, V = five5 S g9 (k * 5) ez := ⟨_, rfl⟩
  have RV := Lib.hid (R9.out.setFive (k := k) (by first | exact hkz | (simp only [List.length_set]; exact hkz)) ez)
  have aV := (block_kept5 (w := S) (g := g9) (o := k * 5) (b := w.heap.size) (by omega) ez).trans aS
  have bV := (block_kept5 (w := S) (g := g9) (o := k * 5) (b := w.heap.size + 2) (by omega) ez).trans bS
  have KV := Lib.hid (below_set5 KS.out (show w.heap.size ≤ g9 by omega) (k * 5) ez)
  have RFV := Lib.hid (RF9.out.kept (w' := five5 S g9 (k * 5) ez) (row := some g9) ⟨rfl, rfl, rfl, by simp [five5, World.setCell], fun b _ hne => block_kept5 (fun e => hne (by rw [e])) ez⟩ (fun g hg e => by have := HRF.out g hg; injection e; omega))
  have hV2 := hV
  unfold five5 at hV2
  rw [← hV] at RV aV bV KV RFV
  rw [← hV2]
  clear hV hV2 aS bS dS R9 KS s0 s1 s2 s3 s4 ff0 ff1 ff2 ff3 ff4 cA cD lA lB lD RF9
  have cA := cell_of_block aV
  have cB := cell_of_block bV
  have fB := unfrozen_of_block bV
  have lA := lt_of_block aV
  have lB := lt_of_block bV
  have KF := Lib.hid (below_set3 KV.out (show w.heap.size ≤ w.heap.size + 2 by omega) (.slice (some ⟨g9, 0, none⟩) n0 d9) (.slice (some ⟨f, 0, none⟩) 16 d1) (.slice a2 n2 c2))
  have RVF := Lib.hid (((RV.out.setType bV (by decide) 0 (.slice (some ⟨g9, 0, none⟩) n0 d9)).setType (block_setCell bV _) (by decide) 1 (.slice (some ⟨f, 0, none⟩) 16 d1)).setType (block_setCell (block_setCell bV _) _) (by decide) 2 (.slice a2 n2 c2))
  have RFF := Lib.hid (((RFV.out.setType bV (by decide) 0 (.slice (some ⟨g9, 0, none⟩) n0 d9)).setType (block_setCell bV _) (by decide) 1 (.slice (some ⟨f, 0, none⟩) 16 d1)).setType (block_setCell (block_setCell bV _) _) (by decide) 2 (.slice a2 n2 c2))
  go_wp2_with fail
  refine bodyPost_ret (v := .tuple #[.agg #[.slice (some ⟨g9, 0, none⟩) n0 d9, .slice (some ⟨f, 0, none⟩) 16 d1, .slice a2 n2 c2], .int .i64 0]) (by simp [results, Tryz.results63, go_sem, cB]) rfl ?_
  rw [HGK.out, ← HEZ.out]
  have hrff := RFF.out
  rw [← HAD.out]
  exact ⟨_, rfl, (O.out.newEF KF.out RVF.out hrff (by omega) (by omega) hB (fun g e1 e2 => by have := HRF.out g e2; rw [hr9] at e1; injection e1; omega)).gmV (by simp only [List.length_set]; exact HN0.out) (by simp only [List.length_set]; exact HN1.out) HN2.out, KF.out⟩
end Go.Proofs.YtilldpoleiippaaGreatDoor
