/- The reference's l2Hit; condition: small sizes. -/
import Derived.Test.YtilldpoleiippaaGreatDoorOwnX
import Derived.Test.YtilldpoleiippaaGreatDoorDropG
import Derived.Test.YtilldpoleiippaaGreatDoorMA
set_option linter.unusedSimpArgs false
set_option linter.unusedVariables false
namespace Go.Proofs.YtilldpoleiippaaGreatDoor
open Go.RowKit Go.Joins

/-- A game and a number, in rows of its own. -/
def RetG (B : Nat) (z : Gm) (c : Int) (w : World) (e : Ending) (w' : World) : Prop :=
  ∃ v, e = .returned (.tuple #[v, .int .i64 c]) ∧ OwnGm w' B v z ∧ Below w.heap.size w w'
theorem Own3.gmV {w : World} {B n0 n1 n2 c0 c1 c2 : Nat} {a0 a1 a2 : Option Addr} {z : Gm} (h : Own3 w B a0 c0 a1 c1 a2 c2 z) (h0 : z.es.length = n0) (h1 : z.fl.length = n1) (h2 : z.la.length = n2) : OwnGm w B (.agg #[.slice a0 n0 c0, .slice a1 n1 c1, .slice a2 n2 c2]) z := by
  subst h0 h1 h2
  exact h.gm
/-- What a hit does: too far, or a life less. -/
def hitR (g : Gm) (k : Nat) (o : Option Nat) : Gm × Int :=
  match o with
  | none => (g, 8)
  | some n => if n = k ∨ nearB (entN g.es k) (entN g.es n) = false then (g, 8) else (hitG g n, 0)
set_option maxRecDepth 100000 in
set_option maxHeartbeats 8000000 in
theorem l2Hit_no {B : Nat} {X : Nat → Prop} (es : List Rq) (fl la : List Int) (k n0 n2 : Nat) (a0 a1 a2 : Option Addr) (c0 c1 c2 : Nat) (m : Int) (w : World) (h : OwnX X w B a0 c0 a1 c1 a2 c2 ⟨es, fl, la⟩) (hn0 : es.length = n0) (hn1 : fl.length = 16) (hn2 : la.length = n2) (hk : k < n0) (h4 : n0 ≤ 4) (hB : B ≤ w.heap.size) (hp : Places es)
    (hm : m < 0 ∨ m = k) :
    Calls Tryz.prog 72 #[.agg #[.slice a0 n0 c0, .slice a1 16 c1, .slice a2 n2 c2], .int .i64 k, .int .i64 m] w (RetX X B ⟨es, fl, la⟩ 8 w) := by
  have O := Lib.hid h
  have HN0 := Lib.hid hn0
  have HN1 := Lib.hid hn1
  have HN2 := Lib.hid hn2
  have HP := Lib.hid hp
  have hle0 : n0 ≤ c0 := by have := h.e.len; simp only at this; omega
  have hc0m := h.e.max
  unfold maxLen at hc0m
  clear h hn0 hn1 hn2 hp
  go_enter Tryz.func72, Tryz.ntmps72
  go_upto_region 1 with fail
  obtain ⟨W, hW, sW, aW, bW, kW⟩ := blocks2 w (.cells #[.slice a0 n0 c0, .slice a1 16 c1, .slice a2 n2 c2] 27) (.cells #[.slice none 0 0, .slice none 0 0, .slice none 0 0] 27)
  rw [← hW]
  clear hW
  rcases hm with hm | hm
  · have hmd : decide (m < 0) = true := by simp; omega
    go_wp2_with fail
    refine wp_region_quiet_below (by kernel_rfl) (by kernel_rfl) ?_
    repeat (go_big_quiet_step (fail))
    refine wpQuiet_nil ?_
    intro _ hw'
    obtain ⟨⟨dq, osq⟩, hw''⟩ := hw'
    subst hw''
    have KW := Lib.hid (below_next kW (below_regrown W dq osq))
    have AW := Lib.hid (carryN (below_regrown W dq osq) aW)
    have BW := Lib.hid (carryN (below_regrown W dq osq) bW)
    clear aW bW kW
    have hOW := O.out.below KW.out
    have cA := cell_of_block AW.out
    have cB := cell_of_block BW.out
    have fB := unfrozen_of_block BW.out
    have lA := lt_of_block AW.out
    have lB := lt_of_block BW.out
    go_wp2_with fail
    refine bodyPost_ret (v := .tuple #[.agg #[.slice a0 n0 c0, .slice a1 16 c1, .slice a2 n2 c2], .int .i64 8]) (by simp [results, Tryz.results72, go_sem, cB]) rfl ?_
    have KW' := KW.out
    exact ⟨_, rfl, (O.out.below (by repeat' (first | with_reducible exact Below.refl _ _ | with_reducible assumption | with_reducible refine Below.alloc ?_ ?_ _ | with_reducible refine Below.drew ?_ | with_reducible refine Below.setCell ?_ ?_ _ | omega | (simp; omega) | (simp; done)))).gmV HN0.out HN1.out HN2.out, (by repeat' (first | with_reducible exact Below.refl _ _ | with_reducible assumption | with_reducible refine Below.alloc ?_ ?_ _ | with_reducible refine Below.drew ?_ | with_reducible refine Below.setCell ?_ ?_ _ | omega | (simp; omega) | (simp; done)))⟩
  · have hmd : decide (m < 0) = false := by simp; omega
    have hm0 : ¬ m < 0 := by omega
    subst hm
    go_wp2_with fail
    refine wp_region_quiet_below (by kernel_rfl) (by kernel_rfl) ?_
    repeat (go_big_quiet_step (fail))
    refine wpQuiet_nil ?_
    intro _ hw'
    obtain ⟨⟨dq, osq⟩, hw''⟩ := hw'
    subst hw''
    have KW := Lib.hid (below_next kW (below_regrown W dq osq))
    have AW := Lib.hid (carryN (below_regrown W dq osq) aW)
    have BW := Lib.hid (carryN (below_regrown W dq osq) bW)
    clear aW bW kW
    have hOW := O.out.below KW.out
    have cA := cell_of_block AW.out
    have cB := cell_of_block BW.out
    have fB := unfrozen_of_block BW.out
    have lA := lt_of_block AW.out
    have lB := lt_of_block BW.out
    go_wp2_with fail
    refine bodyPost_ret (v := .tuple #[.agg #[.slice a0 n0 c0, .slice a1 16 c1, .slice a2 n2 c2], .int .i64 8]) (by simp [results, Tryz.results72, go_sem, cB]) rfl ?_
    have KW' := KW.out
    exact ⟨_, rfl, (O.out.below (by repeat' (first | with_reducible exact Below.refl _ _ | with_reducible assumption | with_reducible refine Below.alloc ?_ ?_ _ | with_reducible refine Below.drew ?_ | with_reducible refine Below.setCell ?_ ?_ _ | omega | (simp; omega) | (simp; done)))).gmV HN0.out HN1.out HN2.out, (by repeat' (first | with_reducible exact Below.refl _ _ | with_reducible assumption | with_reducible refine Below.alloc ?_ ?_ _ | with_reducible refine Below.drew ?_ | with_reducible refine Below.setCell ?_ ?_ _ | omega | (simp; omega) | (simp; done)))⟩
set_option maxRecDepth 100000 in
set_option maxHeartbeats 8000000 in
theorem l2Hit_far {B : Nat} {X : Nat → Prop} (es : List Rq) (fl la : List Int) (k n n0 n2 : Nat) (a0 a1 a2 : Option Addr) (c0 c1 c2 : Nat) (w : World) (h : OwnX X w B a0 c0 a1 c1 a2 c2 ⟨es, fl, la⟩) (hn0 : es.length = n0) (hn1 : fl.length = 16) (hn2 : la.length = n2) (hk : k < n0) (h4 : n0 ≤ 4) (hB : B ≤ w.heap.size) (hp : Places es)
    (hn : n < n0) (hnk : n ≠ k) (hnear : nearB (entN es k) (entN es n) = false) :
    Calls Tryz.prog 72 #[.agg #[.slice a0 n0 c0, .slice a1 16 c1, .slice a2 n2 c2], .int .i64 k, .int .i64 n] w (RetX X B ⟨es, fl, la⟩ 8 w) := by
  have O := Lib.hid h
  have HN0 := Lib.hid hn0
  have HN1 := Lib.hid hn1
  have HN2 := Lib.hid hn2
  have HP := Lib.hid hp
  have hle0 : n0 ≤ c0 := by have := h.e.len; simp only at this; omega
  have hc0m := h.e.max
  unfold maxLen at hc0m
  obtain ⟨g0, hg0, hgB, hgl, e0, e1, e2, e3, e4, -, hr0⟩ := h.e.entAt (i := k) (by simp only; omega)
  obtain ⟨g1, hg1, -, -, d0, d1, d2, d3, d4, -, -⟩ := h.e.entAt (i := n) (by simp only; omega)
  have hgg : g0 = g1 := by rw [hg0] at hg1; injection hg1 with hg1; injection hg1
  subst hgg
  clear hg1
  simp only at e0 e1 e2 e3 e4 d0 d1 d2 d3 d4
  have hkz : k < es.length := by omega
  have hnz : n < es.length := by omega
  rw [entN_get hkz, entN_get hnz] at hnear
  have hPk := hp _ (List.getElem_mem hkz)
  have hPn := hp _ (List.getElem_mem hnz)
  have HGN := Lib.hid (entN_get hnz)
  subst hg0
  generalize hzk : es[k] = zk at *
  generalize hzn : es[n] = zn at *
  have HZN := Lib.hid hzn
  clear h hn0 hn1 hn2 hp hzk hzn
  go_enter Tryz.func72, Tryz.ntmps72
  go_upto_region 1 with fail
  obtain ⟨W, hW, sW, aW, bW, kW⟩ := blocks2 w (.cells #[.slice (some ⟨g0, 0, none⟩) n0 c0, .slice a1 16 c1, .slice a2 n2 c2] 27) (.cells #[.slice none 0 0, .slice none 0 0, .slice none 0 0] 27)
  rw [← hW]
  clear hW
  have x0 := cell_regrown ((kW.cell (p := ⟨g0, _, none⟩) hgl).trans e0)
  have x1 := cell_regrown ((kW.cell (p := ⟨g0, _, none⟩) hgl).trans e1)
  have x2 := cell_regrown ((kW.cell (p := ⟨g0, _, none⟩) hgl).trans e2)
  have x3 := cell_regrown ((kW.cell (p := ⟨g0, _, none⟩) hgl).trans e3)
  have x4 := cell_regrown ((kW.cell (p := ⟨g0, _, none⟩) hgl).trans e4)
  have y0 := cell_regrown ((kW.cell (p := ⟨g0, _, none⟩) hgl).trans d0)
  have y1 := cell_regrown ((kW.cell (p := ⟨g0, _, none⟩) hgl).trans d1)
  have y2 := cell_regrown ((kW.cell (p := ⟨g0, _, none⟩) hgl).trans d2)
  have y3 := cell_regrown ((kW.cell (p := ⟨g0, _, none⟩) hgl).trans d3)
  have y4 := cell_regrown ((kW.cell (p := ⟨g0, _, none⟩) hgl).trans d4)
  have ga := cellRe aW
  have cN := quietC (w := W) (fun V _ => l2Near_c zk zn V ⟨hPk.1.1, hPk.1.2, hPk.2.1.1, hPk.2.1.2⟩ ⟨hPn.1.1, hPn.1.2, hPn.2.1.1, hPn.2.1.2⟩)
  rw [hnear] at cN
  have hmd : decide ((n : Int) < 0) = false := by simp
  have hmn : ¬ (n : Int) < 0 := by omega
  have hmk : ((n : Int) == (k : Int)) = false := by simp; omega
  have hmk2 : ¬ (n : Int) = (k : Int) := by omega
  have hk0 : (0 : Int) ≤ (k : Int) := by omega
  have hk1 : (k : Int) < (n0 : Int) := by omega
  have hn0' : (0 : Int) ≤ (n : Int) := by omega
  have hn1' : (n : Int) < (n0 : Int) := by omega
  clear e0 e1 e2 e3 e4 d0 d1 d2 d3 d4 hnear
  go_wp2_with fail
  refine wp_region_quiet_below (by kernel_rfl) (by kernel_rfl) ?_
  repeat (go_big_quiet_step (first | with_reducible exact cN _ _))
  refine wpQuiet_nil ?_
  intro _ hw'
  obtain ⟨⟨dq, osq⟩, hw''⟩ := hw'
  subst hw''
  have KW := Lib.hid (below_next kW (below_regrown W dq osq))
  have AW := Lib.hid (carryN (below_regrown W dq osq) aW)
  have BW := Lib.hid (carryN (below_regrown W dq osq) bW)
  generalize Sort.grow (redrawn W dq) osq = X at *
  clear aW bW kW x0 x1 x2 x3 x4 y0 y1 y2 y3 y4 ga cN
  have hOW := O.out.below KW.out
  have cA := cell_of_block AW.out
  have cB := cell_of_block BW.out
  have fB := unfrozen_of_block BW.out
  have lA := lt_of_block AW.out
  have lB := lt_of_block BW.out
  go_wp2_with fail
  refine bodyPost_ret (v := .tuple #[.agg #[.slice (some ⟨g0, 0, none⟩) n0 c0, .slice a1 16 c1, .slice a2 n2 c2], .int .i64 8]) (by simp [results, Tryz.results72, go_sem, cB]) rfl ?_
  have KW' := KW.out
  exact ⟨_, rfl, (O.out.below (by repeat' (first | with_reducible exact Below.refl _ _ | with_reducible assumption | with_reducible refine Below.alloc ?_ ?_ _ | with_reducible refine Below.drew ?_ | with_reducible refine Below.setCell ?_ ?_ _ | omega | (simp; omega) | (simp; done)))).gmV HN0.out HN1.out HN2.out, (by repeat' (first | with_reducible exact Below.refl _ _ | with_reducible assumption | with_reducible refine Below.alloc ?_ ?_ _ | with_reducible refine Below.drew ?_ | with_reducible refine Below.setCell ?_ ?_ _ | omega | (simp; omega) | (simp; done)))⟩
set_option maxRecDepth 100000 in
set_option maxHeartbeats 8000000 in
theorem l2Hit_hit {B : Nat} {X : Nat → Prop} (es : List Rq) (fl la : List Int) (k n n0 n2 : Nat) (a0 a1 a2 : Option Addr) (c0 c1 c2 : Nat) (w : World) (h : OwnX X w B a0 c0 a1 c1 a2 c2 ⟨es, fl, la⟩) (hn0 : es.length = n0) (hn1 : fl.length = 16) (hn2 : la.length = n2) (hk : k < n0) (h4 : n0 ≤ 4) (hB : B ≤ w.heap.size) (hp : Places es)
    (hf : ∀ n ∈ fl, 0 ≤ n ∧ n ≤ 20) (hn : n < n0) (hnk : n ≠ k) (hnear : nearB (entN es k) (entN es n) = true) :
    Calls Tryz.prog 72 #[.agg #[.slice a0 n0 c0, .slice a1 16 c1, .slice a2 n2 c2], .int .i64 k, .int .i64 n] w (RetX X B (hitG ⟨es, fl, la⟩ n) 0 w) := by
  have HFF := Lib.hid hf
  clear hf
  have O := Lib.hid h
  have HN0 := Lib.hid hn0
  have HN1 := Lib.hid hn1
  have HN2 := Lib.hid hn2
  have HP := Lib.hid hp
  have hle0 : n0 ≤ c0 := by have := h.e.len; simp only at this; omega
  have hc0m := h.e.max
  unfold maxLen at hc0m
  obtain ⟨g0, hg0, hgB, hgl, e0, e1, e2, e3, e4, -, hr0⟩ := h.e.entAt (i := k) (by simp only; omega)
  obtain ⟨g1, hg1, -, -, d0, d1, d2, d3, d4, -, -⟩ := h.e.entAt (i := n) (by simp only; omega)
  have hgg : g0 = g1 := by rw [hg0] at hg1; injection hg1 with hg1; injection hg1
  subst hgg
  clear hg1
  simp only at e0 e1 e2 e3 e4 d0 d1 d2 d3 d4
  have hkz : k < es.length := by omega
  have hnz : n < es.length := by omega
  rw [entN_get hkz, entN_get hnz] at hnear
  have hPk := hp _ (List.getElem_mem hkz)
  have hPn := hp _ (List.getElem_mem hnz)
  have HGN := Lib.hid (entN_get hnz)
  subst hg0
  generalize hzk : es[k] = zk at *
  generalize hzn : es[n] = zn at *
  have HZN := Lib.hid hzn
  clear h hn0 hn1 hn2 hp hzk hzn
  go_enter Tryz.func72, Tryz.ntmps72
  go_upto_region 1 with fail
  obtain ⟨W, hW, sW, aW, bW, kW⟩ := blocks2 w (.cells #[.slice (some ⟨g0, 0, none⟩) n0 c0, .slice a1 16 c1, .slice a2 n2 c2] 27) (.cells #[.slice none 0 0, .slice none 0 0, .slice none 0 0] 27)
  rw [← hW]
  clear hW
  have x0 := cell_regrown ((kW.cell (p := ⟨g0, _, none⟩) hgl).trans e0)
  have x1 := cell_regrown ((kW.cell (p := ⟨g0, _, none⟩) hgl).trans e1)
  have x2 := cell_regrown ((kW.cell (p := ⟨g0, _, none⟩) hgl).trans e2)
  have x3 := cell_regrown ((kW.cell (p := ⟨g0, _, none⟩) hgl).trans e3)
  have x4 := cell_regrown ((kW.cell (p := ⟨g0, _, none⟩) hgl).trans e4)
  have y0 := cell_regrown ((kW.cell (p := ⟨g0, _, none⟩) hgl).trans d0)
  have y1 := cell_regrown ((kW.cell (p := ⟨g0, _, none⟩) hgl).trans d1)
  have y2 := cell_regrown ((kW.cell (p := ⟨g0, _, none⟩) hgl).trans d2)
  have y3 := cell_regrown ((kW.cell (p := ⟨g0, _, none⟩) hgl).trans d3)
  have y4 := cell_regrown ((kW.cell (p := ⟨g0, _, none⟩) hgl).trans d4)
  have ga := cellRe aW
  have cN := quietC (w := W) (fun V _ => l2Near_c zk zn V ⟨hPk.1.1, hPk.1.2, hPk.2.1.1, hPk.2.1.2⟩ ⟨hPn.1.1, hPn.1.2, hPn.2.1.1, hPn.2.1.2⟩)
  rw [hnear] at cN
  have hmd : decide ((n : Int) < 0) = false := by simp
  have hmn : ¬ (n : Int) < 0 := by omega
  have hmk : ((n : Int) == (k : Int)) = false := by simp; omega
  have hmk2 : ¬ (n : Int) = (k : Int) := by omega
  have hk0 : (0 : Int) ≤ (k : Int) := by omega
  have hk1 : (k : Int) < (n0 : Int) := by omega
  have hn0' : (0 : Int) ≤ (n : Int) := by omega
  have hn1' : (n : Int) < (n0 : Int) := by omega
  clear e0 e1 e2 e3 e4 d0 d1 d2 d3 d4 hnear
  go_wp2_with fail
  refine wp_region_quiet_below (by kernel_rfl) (by kernel_rfl) ?_
  repeat (go_big_quiet_step (first | with_reducible exact cN _ _))
  refine wpQuiet_nil ?_
  intro _ hw'
  obtain ⟨⟨dq, osq⟩, hw''⟩ := hw'
  subst hw''
  have KW := Lib.hid (below_next kW (below_regrown W dq osq))
  have AW := Lib.hid (carryN (below_regrown W dq osq) aW)
  have BW := Lib.hid (carryN (below_regrown W dq osq) bW)
  generalize Sort.grow (redrawn W dq) osq = X at *
  clear aW bW kW x0 x1 x2 x3 x4 y0 y1 y2 y3 y4 ga cN
  have aW := AW.out
  have bW := BW.out
  have cA := cell_of_block aW
  have lA := lt_of_block aW
  have lB := lt_of_block bW
  have hXl := lt_of_block bW
  have HRE := Lib.hid ((O.out.below KW.out).e.rows five_len)
  go_upto_region 4 with (at_builtin; refine wpList_append_new (X.heap.size + 1) rfl (.tmp 30) (.tmp 32) rfl eltEnt rfl rfl (HRE.out.below (by repeat' (first | with_reducible exact Below.refl _ _ | with_reducible assumption | with_reducible refine Below.alloc ?_ ?_ _ | with_reducible refine Below.drew ?_ | with_reducible refine Below.setCell ?_ ?_ _ | omega | (simp; omega) | (simp; done)))) HN0.out (by simp only [maxLen]; omega) (by omega) (by simp <;> omega) ?_; intro x1 d1 w1 q1; have k1 := ((Below.refl X.heap.size X).alloc (Nat.le_refl _) (.cells #[] 44)).trans (q1.below.mono (by simp <;> omega)); have cW := cell_of_block (carryN k1 aW); have fW := unfrozen_of_block (carryN k1 aW))
  obtain ⟨Y, hY⟩ : ∃ Y, Y = w1.setCell ⟨w.heap.size, 0, none⟩ (.slice x1 n0 d1) := ⟨_, rfl⟩
  have R1 := Lib.hid (show Row (w1.setCell ⟨w.heap.size, 0, none⟩ (.slice x1 n0 d1)) X.heap.size 44 x1 d1 5 Rq.cs es from (q1.row.low (Nat.le_succ _)).setOther (p := ⟨w.heap.size, 0, none⟩) (by simp; omega) (.slice x1 n0 d1))
  have aY := block_setCell (i := 0) (carryN k1 aW) (.slice x1 n0 d1)
  have bY := (Below.heap_setCell w1 ⟨w.heap.size, 0, none⟩ (.slice x1 n0 d1) _ (by simp)).trans (carryN k1 bW)
  have KY := Lib.hid (Below.setCell (below_next KW.out k1) (p := ⟨w.heap.size, 0, none⟩) (Nat.le_refl _) (.slice x1 n0 d1))
  rw [← hY] at R1 aY bY KY ⊢
  simp only [List.setIfInBounds_toArray, List.set] at aY
  clear hY q1 k1 cW fW aW bW AW BW KW HRE cA lA lB
  obtain ⟨g2, hg2, hg2B, hg2l, -, -, -, f3, -, ff, hr2⟩ := R1.out.entAt (i := n) (by rw [HN0.out]; exact hn)
  subst hg2
  rw [HZN.out] at f3
  have hnz' : n < es.length := by rw [HN0.out]; exact hn
  have R2 := Lib.hid (R1.out.setOne five_len hnz' (j := 3) (by decide) ({ zn with x := zn.x - 1 } : Rq) (.int .i64 (zn.x - 1)) rfl (fun j' h1 h2 => by
    rw [HZN.out]
    have : j' = 0 ∨ j' = 1 ∨ j' = 2 ∨ j' = 4 := by omega
    rcases this with rfl | rfl | rfl | rfl <;> rfl) rfl).drew
  have hm3 : IntKind.i64.wrap (zn.x - 1) = zn.x - 1 := IntWalk.i64_in _ ⟨by omega, by omega⟩
  have ff3 := ff (n * 5 + 3)
  clear ff
  have cY := cell_of_block aY
  have lY := lt_of_block aY
  have hg2w : w.heap.size + 1 < g2 := by omega
  have ne_ : ¬ (w.heap.size = g2) := by omega
  have ne_ : ¬ (g2 = w.heap.size) := by omega
  go_still_tail 12, (by kernel_rfl)
  change wpList _ _ _ _ _ Y.drew
  go_upto_region 5 with fail
  obtain ⟨Z, hZ⟩ : ∃ Z, Z = (Y.setCell ⟨g2, n * 5 + 3, none⟩ (.int .i64 (zn.x - 1))).drew := ⟨_, rfl⟩
  have aZ : (Y.setCell ⟨g2, n * 5 + 3, none⟩ (.int .i64 (zn.x - 1))).drew.heap[w.heap.size]? = _ := (Below.heap_setCell Y ⟨g2, n * 5 + 3, none⟩ (.int .i64 (zn.x - 1)) _ (by simp; omega)).trans aY
  have bZ : (Y.setCell ⟨g2, n * 5 + 3, none⟩ (.int .i64 (zn.x - 1))).drew.heap[w.heap.size + 1]? = _ := (Below.heap_setCell Y ⟨g2, n * 5 + 3, none⟩ (.int .i64 (zn.x - 1)) _ (by simp; omega)).trans bY
  have KZ := Lib.hid (Below.setCell KY.out (p := ⟨g2, n * 5 + 3, none⟩) (show w.heap.size ≤ g2 by omega) (.int .i64 (zn.x - 1))).drew
  rw [← hZ] at R2 aZ bZ KZ ⊢
  clear hZ aY bY cY lY R1 KY f3 ff3 hm3
  have cZ := cell_of_block aZ
  have fZ := unfrozen_of_block aZ
  have lZ := lt_of_block aZ
  obtain ⟨g3, hg3, -, hg3l, -, -, -, f3, -, -, -⟩ := R2.out.entAt (i := n) (by rw [List.length_set, HN0.out]; exact hn)
  injection hg3 with hg3
  injection hg3 with hg3
  subst hg3
  simp only [List.getElem_set_self] at f3
  have O2 := Lib.hid (O.out.newE KZ.out R2.out (by omega) hB)
  have HL2 := Lib.hid (show (es.set n ({ zn with x := zn.x - 1 } : Rq)).length = n0 by rw [List.length_set]; exact HN0.out)
  have bZ' := Lib.hid bZ
  by_cases hx : zn.x - 1 ≤ 0
  · have HG := Lib.hid (show hitG ⟨es, fl, la⟩ n = ⟨(es.set n ({ zn with x := zn.x - 1 } : Rq)).eraseIdx n, addAt fl (sqOf (entN (es.set n ({ zn with x := zn.x - 1 } : Rq)) n)) (entN (es.set n ({ zn with x := zn.x - 1 } : Rq)) n).y, la⟩ by
      have e1 : entN (es.set n ({ zn with x := zn.x - 1 } : Rq)) n = { zn with x := zn.x - 1 } := by rw [entN_get (by rw [List.length_set]; exact hnz')]; simp
      unfold hitG
      rw [e1]
      simp only [HGN.out]
      rw [if_pos hx]
      congr 1
      rw [List.eraseIdx_set_eq])
    have hEN : entN (es.set n ({ zn with x := zn.x - 1 } : Rq)) n = { zn with x := zn.x - 1 } := by rw [entN_get (by rw [List.length_set]; exact hnz')]; simp
    have CD := Lib.hid (fun (V : World) (k : Below Z.heap.size Z V) => l2Drop_c (B := B) (es.set n ({ zn with x := zn.x - 1 } : Rq)) fl la n n0 n2 _ _ _ d1 c1 c2 V (O2.out.below k) HL2.out HN1.out hn h4 (Nat.le_trans hB (Nat.le_trans KZ.out.size k.size)) (by rw [hEN]; exact ⟨hPn.1, hPn.2.1, hPn.2.2.2⟩) HFF.out)
    clear hEN
    go_wp2_with fail
    refine (CD.out Z (Below.refl _ _)).mono ?_
    rintro e w5 ⟨b0, e0, b1, e1, rfl, o5, k5⟩
    have aW := carryN k5 aZ
    have bW := carryN k5 bZ
    have K5 := Lib.hid (below_next KZ.out k5)
    have O5 := Lib.hid o5
    clear o5 k5 cZ fZ lZ aZ bZ f3
    have cA := cell_of_block aW
    have fA := unfrozen_of_block aW
    have cB := cell_of_block bW
    have fB := unfrozen_of_block bW
    have lA := lt_of_block aW
    have lB := lt_of_block bW
    go_upto_region 7 with fail
    obtain ⟨V, hV⟩ : ∃ V, V = ((w5.setCell ⟨w.heap.size, 0, none⟩ (.slice b0 (n0 - 1 : Nat) e0)).setCell ⟨w.heap.size, 1, none⟩ (.slice b1 16 e1)).setCell ⟨w.heap.size, 2, none⟩ (.slice a2 n2 c2) := ⟨_, rfl⟩
    have OV := Lib.hid (O5.out.set3 aW (.slice b0 (n0 - 1 : Nat) e0) (.slice b1 16 e1) (.slice a2 n2 c2))
    have aV := block_set3 aW (.slice b0 (n0 - 1 : Nat) e0) (.slice b1 16 e1) (.slice a2 n2 c2)
    have bV := (block_kept3 (w := w5) (b := w.heap.size + 1) (G := w.heap.size) (by omega) (.slice b0 (n0 - 1 : Nat) e0) (.slice b1 16 e1) (.slice a2 n2 c2)).trans bW
    have KV := Lib.hid (below_set3 K5.out (Nat.le_refl _) (.slice b0 (n0 - 1 : Nat) e0) (.slice b1 16 e1) (.slice a2 n2 c2))
    rw [← hV] at OV aV bV KV ⊢
    clear hV aW bW cA fA cB fB lA lB O5 K5
    have cA := cell_of_block aV
    have cB := cell_of_block bV
    have fB := unfrozen_of_block bV
    have lA := lt_of_block aV
    have lB := lt_of_block bV
    have OF := Lib.hid (OV.out.set3 bV (.slice b0 (n0 - 1 : Nat) e0) (.slice b1 16 e1) (.slice a2 n2 c2))
    have KF := Lib.hid (below_set3 KV.out (Nat.le_succ _) (.slice b0 (n0 - 1 : Nat) e0) (.slice b1 16 e1) (.slice a2 n2 c2))
    go_wp2_with fail
    refine bodyPost_ret (v := .tuple #[.agg #[.slice b0 (n0 - 1) e0, .slice b1 16 e1, .slice a2 n2 c2], .int .i64 0]) (by simp [results, Tryz.results72, go_sem, cB]) rfl ?_
    rw [HG.out]
    refine ⟨_, rfl, OF.out.gmV ?_ ?_ HN2.out, KF.out⟩
    · rw [List.length_eraseIdx_of_lt (by rw [HL2.out]; exact hn), HL2.out]
    · unfold addAt
      simp only [List.length_set]
      exact HN1.out
  · have HG := Lib.hid (show hitG ⟨es, fl, la⟩ n = ⟨es.set n ({ zn with x := zn.x - 1 } : Rq), fl, la⟩ by
      unfold hitG
      simp only [HGN.out]
      rw [if_neg hx])
    have cB := cell_of_block bZ
    have fB := unfrozen_of_block bZ
    have lB := lt_of_block bZ
    go_wp2_with fail
    refine bodyPost_ret (v := .tuple #[.agg #[.slice (some ⟨g2, 0, none⟩) n0 d1, .slice a1 16 c1, .slice a2 n2 c2], .int .i64 0]) (by simp [results, Tryz.results72, go_sem, cB]) rfl ?_
    rw [HG.out]
    have KZ' := KZ.out
    have R2' := R2.out
    refine ⟨_, rfl, (O.out.newE (B' := w.heap.size + 2) ?_ ?_ (by omega) hB).gmV HL2.out HN1.out HN2.out, (by repeat' (first | with_reducible exact Below.refl _ _ | with_reducible assumption | with_reducible refine Below.alloc ?_ ?_ _ | with_reducible refine Below.drew ?_ | with_reducible refine Below.setCell ?_ ?_ _ | omega | (simp; omega) | (simp; done)))⟩
    · exact (by repeat' (first | with_reducible exact Below.refl _ _ | with_reducible assumption | with_reducible refine Below.alloc ?_ ?_ _ | with_reducible refine Below.drew ?_ | with_reducible refine Below.setCell ?_ ?_ _ | omega | (simp; omega) | (simp; done)))
    · exact ((((R2'.low (by omega)).setOther (by simp) _).setOther (by simp) _).setOther (by simp) _)
theorem l2Hit_c {B : Nat} {X : Nat → Prop} (es : List Rq) (fl la : List Int) (k n0 n2 : Nat) (o : Option Nat) (a0 a1 a2 : Option Addr) (c0 c1 c2 : Nat) (w : World) (h : OwnX X w B a0 c0 a1 c1 a2 c2 ⟨es, fl, la⟩) (hn0 : es.length = n0) (hn1 : fl.length = 16) (hn2 : la.length = n2) (hk : k < n0) (h4 : n0 ≤ 4) (hB : B ≤ w.heap.size) (hp : Places es)
    (hf : ∀ n ∈ fl, 0 ≤ n ∧ n ≤ 20) (ho : ∀ n, o = some n → n < n0) :
    Calls Tryz.prog 72 #[.agg #[.slice a0 n0 c0, .slice a1 16 c1, .slice a2 n2 c2], .int .i64 k, .int .i64 (optI o)] w (RetX X B (hitR ⟨es, fl, la⟩ k o).1 (hitR ⟨es, fl, la⟩ k o).2 w) := by
  cases o with
  | none => exact l2Hit_no es fl la k n0 n2 a0 a1 a2 c0 c1 c2 (-1) w h hn0 hn1 hn2 hk h4 hB hp (.inl (by decide))
  | some n =>
    have hn := ho n rfl
    by_cases hnk : n = k
    · have e : hitR ⟨es, fl, la⟩ k (some n) = (⟨es, fl, la⟩, 8) := by simp [hitR, hnk]
      rw [e]
      exact l2Hit_no es fl la k n0 n2 a0 a1 a2 c0 c1 c2 (n : Int) w h hn0 hn1 hn2 hk h4 hB hp (.inr (by rw [hnk]))
    · cases hb : nearB (entN es k) (entN es n) with
      | false =>
        have e : hitR ⟨es, fl, la⟩ k (some n) = (⟨es, fl, la⟩, 8) := by simp [hitR, hb]
        rw [e]
        exact l2Hit_far es fl la k n n0 n2 a0 a1 a2 c0 c1 c2 w h hn0 hn1 hn2 hk h4 hB hp hn hnk hb
      | true =>
        have e : hitR ⟨es, fl, la⟩ k (some n) = (hitG ⟨es, fl, la⟩ n, 0) := by simp [hitR, hb, hnk]
        rw [e]
        exact l2Hit_hit es fl la k n n0 n2 a0 a1 a2 c0 c1 c2 w h hn0 hn1 hn2 hk h4 hB hp hf hn hnk hb
end Go.Proofs.YtilldpoleiippaaGreatDoor
