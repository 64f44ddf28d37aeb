/- A game's rows, apart from some blocks that were there before; no program; no condition. | The reference's l2Drop; condition: small sizes. | The reference's l2Hit; condition: small sizes. | The reference's l2Act; condition: small sizes. | The reference's l2Act, at hits and gifts; condition: small sizes. | The reference's l2Act, at gifts; condition: small sizes. | The reference's l2Act, of any ask that is ok but joining; condition: a game that is ok but for the last asks. | The reference's l2Join; condition: small sizes. | The reference's l2Do, of a game that is ok; no other condition. -/
import Derived.Test.YtofedboeggdkaaaKB
import Derived.Test.YtofedboeggdkaaaKX
import Derived.StillTailTactics
import Derived.Test.YtofedboeggdkaaaKA
set_option linter.unusedSimpArgs false
set_option linter.unusedVariables false
/-! A game's rows, apart from some blocks that were there before; no program; no condition. -/
namespace Go.Proofs.Ytofedboeggdkaaa
open Go.RowKit Go.Joins

/-- A game's three rows in blocks of their own, from B on; the floor's and the numbers' are none of the blocks X, all of which are there. -/
structure OwnX (X : Nat → Prop) (w : World) (B : Nat) (a0 : Option Addr) (c0 : Nat) (a1 : Option Addr) (c1 : Nat) (a2 : Option Addr) (c2 : Nat) (z : Gm) : Prop extends Own3 w B a0 c0 a1 c1 a2 c2 z where
  no1 : ∀ g, rowBlk a1 c1 = some g → ¬ X g
  no2 : ∀ g, rowBlk a2 c2 = some g → ¬ X g
  lim : ∀ g, X g → g < w.heap.size
def OwnGX (X : Nat → Prop) (w : World) (B : Nat) (v : Value) (z : Gm) : Prop :=
  ∃ a0 c0 a1 c1 a2 c2, v = .agg #[.slice a0 z.es.length c0, .slice a1 z.fl.length c1, .slice a2 z.la.length c2] ∧ OwnX X w B a0 c0 a1 c1 a2 c2 z
section
variable {X : Nat → Prop} {w w' : World} {B : Nat} {a0 a1 a2 : Option Addr} {c0 c1 c2 : Nat} {z : Gm}
theorem Own3.noX (h : Own3 w B a0 c0 a1 c1 a2 c2 z) : OwnX (fun _ => False) w B a0 c0 a1 c1 a2 c2 z := ⟨h, fun _ _ q => q, fun _ _ q => q, fun _ q => q.elim⟩
theorem OwnX.gm (h : OwnX X w B a0 c0 a1 c1 a2 c2 z) : OwnGX X w B (.agg #[.slice a0 z.es.length c0, .slice a1 z.fl.length c1, .slice a2 z.la.length c2]) z := ⟨a0, c0, a1, c1, a2, c2, rfl, h⟩
theorem OwnX.gmV {n0 n1 n2 : Nat} (h : OwnX X w B a0 c0 a1 c1 a2 c2 z) (h0 : z.es.length = n0) (h1 : z.fl.length = n1) (h2 : z.la.length = n2) : OwnGX X w B (.agg #[.slice a0 n0 c0, .slice a1 n1 c1, .slice a2 n2 c2]) z := by
  subst h0 h1 h2
  exact h.gm
theorem OwnGX.rows {v : Value} (h : OwnGX X w B v z) : ∃ a0 c0 a1 c1 a2 c2, v = .agg #[.slice a0 z.es.length c0, .slice a1 z.fl.length c1, .slice a2 z.la.length c2] ∧ OwnX X w B a0 c0 a1 c1 a2 c2 z := h
theorem OwnGX.own {v : Value} (h : OwnGX X w B v z) : OwnGm w B v z := by
  obtain ⟨a0, c0, a1, c1, a2, c2, rfl, o⟩ := h
  exact o.toOwn3.gm
theorem OwnGm.noX {v : Value} (h : OwnGm w B v z) : OwnGX (fun _ => False) w B v z := by
  obtain ⟨a0, c0, a1, c1, a2, c2, rfl, o⟩ := h.rows
  exact o.noX.gm
theorem OwnX.below (h : OwnX X w B a0 c0 a1 c1 a2 c2 z) (k : Below w.heap.size w w') : OwnX X w' B a0 c0 a1 c1 a2 c2 z :=
  ⟨h.toOwn3.below k, h.no1, h.no2, fun g hg => Nat.lt_of_lt_of_le (h.lim g hg) k.size⟩
theorem OwnX.newE {B' c : Nat} {a : Option Addr} {es : List Rq} (h : OwnX X w B a0 c0 a1 c1 a2 c2 z) (k : Below w.heap.size w w') (r : Row w' B' 92 a c 5 Rq.cs es) (hB : w.heap.size ≤ B') (hb : B ≤ w.heap.size) : OwnX X w' B a c a1 c1 a2 c2 ⟨es, z.fl, z.la⟩ :=
  ⟨h.toOwn3.newE k r hB hb, h.no1, h.no2, fun g hg => Nat.lt_of_lt_of_le (h.lim g hg) k.size⟩
theorem OwnX.newF {B' c : Nat} {a : Option Addr} {fs : List Int} (h : OwnX X w B a0 c0 a1 c1 a2 c2 z) (k : Below w.heap.size w w') (r : Row w' B' 3 a c 1 intR fs) (hB : w.heap.size ≤ B') (hb : B ≤ w.heap.size) : OwnX X w' B a0 c0 a c a2 c2 ⟨z.es, fs, z.la⟩ :=
  ⟨h.toOwn3.newF k r hB hb, fun g hg q => by have := (r.blk hg).1; have := h.lim g q; omega, h.no2, fun g hg => Nat.lt_of_lt_of_le (h.lim g hg) k.size⟩
theorem OwnX.newL {B' c : Nat} {a : Option Addr} {ls : List Int} (h : OwnX X w B a0 c0 a1 c1 a2 c2 z) (k : Below w.heap.size w w') (r : Row w' B' 3 a c 1 intR ls) (hB : w.heap.size ≤ B') (hb : B ≤ w.heap.size) : OwnX X w' B a0 c0 a1 c1 a c ⟨z.es, z.fl, ls⟩ :=
  ⟨h.toOwn3.newL k r hB hb, h.no1, fun g hg q => by have := (r.blk hg).1; have := h.lim g q; omega, fun g hg => Nat.lt_of_lt_of_le (h.lim g hg) k.size⟩
theorem OwnX.newEF {B1 B2 c c' : Nat} {a a' : Option Addr} {es : List Rq} {fs : List Int} (h : OwnX X w B a0 c0 a1 c1 a2 c2 z) (k : Below w.heap.size w w') (r : Row w' B1 92 a c 5 Rq.cs es) (q : Row w' B2 3 a' c' 1 intR fs) (h1 : w.heap.size ≤ B1) (h2 : w.heap.size ≤ B2) (hb : B ≤ w.heap.size)
    (hap : ∀ g, rowBlk a c = some g → rowBlk a' c' ≠ some g) : OwnX X w' B a c a' c' a2 c2 ⟨es, fs, z.la⟩ :=
  ⟨h.toOwn3.newEF k r q h1 h2 hb hap, fun g hg p => by have := (q.blk hg).1; have := h.lim g p; omega, h.no2, fun g hg => Nat.lt_of_lt_of_le (h.lim g hg) k.size⟩
theorem OwnX.setType {G : Nat} {cs : Array Value} {T : TypeId} {fr : Nat × Nat} (h : OwnX X w B a0 c0 a1 c1 a2 c2 z) (hG : w.heap[G]? = some (.cells cs T fr)) (hT : T ≠ 92) (hI : T ≠ 3) (i : Nat) (v : Value) : OwnX X (w.setCell ⟨G, i, none⟩ v) B a0 c0 a1 c1 a2 c2 z :=
  ⟨h.toOwn3.setType hG hT hI i v, h.no1, h.no2, fun g hg => by simpa using h.lim g hg⟩
theorem OwnX.drew (h : OwnX X w B a0 c0 a1 c1 a2 c2 z) : OwnX X w.drew B a0 c0 a1 c1 a2 c2 z := ⟨h.toOwn3.drew, h.no1, h.no2, h.lim⟩
theorem OwnX.set3 {G : Nat} {cs : Array Value} (h : OwnX X w B a0 c0 a1 c1 a2 c2 z) (hG : w.heap[G]? = some (.cells cs 46 (0, 0))) (x y u : Value) : OwnX X (((w.setCell ⟨G, 0, none⟩ x).setCell ⟨G, 1, none⟩ y).setCell ⟨G, 2, none⟩ u) B a0 c0 a1 c1 a2 c2 z :=
  ⟨h.toOwn3.set3 hG x y u, h.no1, h.no2, fun g hg => by simpa using h.lim g hg⟩
end
/-- A game and a number, in such rows. -/
def RetX (X : Nat → Prop) (B : Nat) (z : Gm) (c : Int) (w : World) (e : Ending) (w' : World) : Prop :=
  ∃ v, e = .returned (.tuple #[v, .int .i64 c]) ∧ OwnGX X w' B v z ∧ Below w.heap.size w w'
end Go.Proofs.Ytofedboeggdkaaa

/-! The reference's l2Drop; condition: small sizes. -/
namespace Go.Proofs.Ytofedboeggdkaaa
open Go.RowKit Go.Joins

set_option maxRecDepth 100000 in
set_option maxHeartbeats 8000000 in
theorem l2Drop_c {B : Nat} {X : Nat → Prop} (es : List Rq) (fl la : List Int) (k n0 n2 : Nat) (a0 a1 a2 : Option Addr) (c0 c1 c2 : Nat) (w : World) (h : OwnX X w B a0 c0 a1 c1 a2 c2 ⟨es, fl, la⟩) (hn0 : es.length = n0) (hn1 : fl.length = 16) (hk : k < n0) (h4 : n0 ≤ 4) (hB : B ≤ w.heap.size)
    (he : (0 ≤ (entN es k).n ∧ (entN es k).n ≤ 3) ∧ (0 ≤ (entN es k).o ∧ (entN es k).o ≤ 3) ∧ (0 ≤ (entN es k).y ∧ (entN es k).y ≤ 20)) (hf : ∀ n ∈ fl, 0 ≤ n ∧ n ≤ 20) :
    Calls Try.prog 139 #[.agg #[.slice a0 n0 c0, .slice a1 16 c1, .slice a2 n2 c2], .int .i64 k] w fun e w' => ∃ b0 d0 b1 d1, e = .returned (.agg #[.slice b0 (n0 - 1 : Nat) d0, .slice b1 16 d1, .slice a2 n2 c2]) ∧ OwnX X w' B b0 d0 b1 d1 a2 c2 ⟨es.eraseIdx k, addAt fl (sqOf (entN es k)) (entN es k).y, la⟩ ∧ Below w.heap.size w w' := by
  have hkz : k < es.length := by omega
  rw [entN_get hkz] at he ⊢
  have O := Lib.hid h
  have HN0 := Lib.hid hn0
  have HN1 := Lib.hid hn1
  have HF := Lib.hid hf
  have hle0 : n0 ≤ c0 := by have := h.e.len; simp only at this; omega
  have hle1 : 16 ≤ c1 := by have := h.f.len; simp only at this; omega
  have hc0m := h.e.max
  unfold maxLen at hc0m
  obtain ⟨g0, hg0, hgB, hgl, e0, e1, e2, e3, e4, ef, hr0⟩ := h.e.entAt (i := k) (by simp only; omega)
  simp only at e0 e1 e2 e3 e4
  subst hg0
  generalize hz : es[k] = z at *
  have HZ := Lib.hid hz
  clear hf h hz ef hn0 hn1
  go_enter Try.func139, Try.ntmps139
  go_upto_region 1 with fail
  obtain ⟨W, hW, sW, aW, bW, kW⟩ := blocks2 w (.cells #[.slice (some ⟨g0, 0, none⟩) n0 c0, .slice a1 16 c1, .slice a2 n2 c2] 46) (.cells #[.slice none 0 0, .slice none 0 0, .slice none 0 0] 46)
  rw [← hW]
  clear hW
  have f0 : W.cell? ⟨g0, k * 5, none⟩ = _ := (kW.cell (p := ⟨g0, _, none⟩) hgl).trans e0
  have f1 : W.cell? ⟨g0, k * 5 + 1, none⟩ = _ := (kW.cell (p := ⟨g0, _, none⟩) hgl).trans e1
  have f2 : W.cell? ⟨g0, k * 5 + 2, none⟩ = _ := (kW.cell (p := ⟨g0, _, none⟩) hgl).trans e2
  have f3 : W.cell? ⟨g0, k * 5 + 3, none⟩ = _ := (kW.cell (p := ⟨g0, _, none⟩) hgl).trans e3
  have f4 : W.cell? ⟨g0, k * 5 + 4, none⟩ = _ := (kW.cell (p := ⟨g0, _, none⟩) hgl).trans e4
  have hk0 : (0 : Int) ≤ (k : Int) := by omega
  have hk1 : (k : Int) < (n0 : Int) := by omega
  have cW := cell_of_block aW
  clear e0 e1 e2 e3 e4
  obtain ⟨q, hq, hq2⟩ : ∃ q : Nat, z.o * 4 + z.n = (q : Int) ∧ q < 16 := ⟨(z.o * 4 + z.n).toNat, by omega, by omega⟩
  have HS := Lib.hid (show sqOf z = q by unfold sqOf; omega)
  have hm1 : IntKind.i64.wrap (z.o * 4) = z.o * 4 := IntWalk.i64_in _ ⟨by omega, by omega⟩
  have hm2 : IntKind.i64.wrap (z.o * 4 + z.n) = z.o * 4 + z.n := IntWalk.i64_in _ ⟨by omega, by omega⟩
  go_upto_region 3 with fail
  clear hm1 hm2 hq f0 f1 f2 f3 f4 cW
  obtain ⟨X, hX, sX, dX, kX⟩ := blocks1 W (.cells #[.int .i64 z.c, .int .i64 z.n, .int .i64 z.o, .int .i64 z.x, .int .i64 z.y] 92)
  rw [← hX]
  clear hX
  replace aW := carryN kX aW
  replace bW := carryN kX bW
  have KX := below_next kW kX
  have cW := cell_of_block aW
  have HFR := Lib.hid ((O.out.below KX).f.rows int_len)
  have HK := Lib.hid KX
  clear kW kX KX
  go_upto_region 4 with (at_builtin; refine wpList_append_new (X.heap.size + 1) rfl (.tmp 19) (.tmp 21) rfl eltInt rfl rfl (HFR.out.below (by repeat' (first | with_reducible exact Below.refl _ _ | with_reducible assumption | with_reducible refine Below.alloc ?_ ?_ _ | with_reducible refine Below.drew ?_ | with_reducible refine Below.setCell ?_ ?_ _ | omega | (simp; omega) | (simp; done)))) HN1.out (by simp only [maxLen]; omega) (by omega) (by simp <;> omega) ?_; intro x1 d1 w1 q1; have k1 := ((Below.refl X.heap.size X).alloc (Nat.le_refl _) (.cells #[] 3)).trans (q1.below.mono (by simp <;> omega)); have cW := cell_of_block (carryN k1 aW); have fW := unfrozen_of_block (carryN k1 aW))
  obtain ⟨Y, hY⟩ : ∃ Y, Y = w1.setCell ⟨w.heap.size, 1, none⟩ (.slice x1 16 d1) := ⟨_, rfl⟩
  have R1 := Lib.hid (show Row (w1.setCell ⟨w.heap.size, 1, none⟩ (.slice x1 16 d1)) (X.heap.size + 1) 3 x1 d1 1 intR fl from q1.row.setOther (p := ⟨w.heap.size, 1, none⟩) (by simp; omega) (.slice x1 16 d1))
  have aY := block_setCell (i := 1) (carryN k1 aW) (.slice x1 16 d1)
  have bY := (Below.heap_setCell w1 ⟨w.heap.size, 1, none⟩ (.slice x1 16 d1) _ (by simp)).trans (carryN k1 bW)
  have dY := (Below.heap_setCell w1 ⟨w.heap.size, 1, none⟩ (.slice x1 16 d1) _ (by simp; omega)).trans (carryN k1 dX)
  have KY := Lib.hid (Below.setCell (below_next HK.out k1) (p := ⟨w.heap.size, 1, none⟩) (Nat.le_refl _) (.slice x1 16 d1))
  have sY : w1.heap.size = (w1.setCell ⟨w.heap.size, 1, none⟩ (.slice x1 16 d1)).heap.size := by simp
  have s1 := k1.size
  rw [← hY] at R1 aY bY dY KY sY ⊢
  rw [sW] at dY
  simp only [List.setIfInBounds_toArray, List.set] at aY
  clear hY q1 k1 cW fW aW bW dX HFR
  obtain ⟨f, hf, hfB, hfl, ef, ff, hrf⟩ := R1.out.intAt (i := q) (by rw [HN1.out]; exact hq2)
  have hqz : q < fl.length := by rw [HN1.out]; exact hq2
  have hfq := HF.out _ (List.getElem_mem hqz)
  subst hf
  have R2 := Lib.hid (R1.out.setInt hqz (fl[q] + z.y)).drew
  have HAD := Lib.hid (show fl.set q (fl[q] + z.y) = addAt fl q z.y by unfold addAt; rw [List.getD_eq_getElem?_getD, List.getElem?_eq_getElem hqz]; rfl)
  generalize hfv : fl[q] = v at *
  have hm3 : IntKind.i64.wrap (v + z.y) = v + z.y := IntWalk.i64_in _ ⟨by omega, by omega⟩
  have hq0 : (0 : Int) ≤ (q : Int) := by omega
  have hq1 : (q : Int) < 16 := by omega
  have cY := cell_of_block aY
  have eY := cell_of_block dY
  go_wp2_with fail
  go_still_tail 12, (by kernel_rfl)
  change wpList _ _ _ _ _ Y.drew
  go_upto_region 5 with fail
  obtain ⟨Z, hZ⟩ : ∃ Z, Z = (Y.setCell ⟨f, q, none⟩ (.int .i64 (v + z.y))).drew := ⟨_, rfl⟩
  have aZ : (Y.setCell ⟨f, q, none⟩ (.int .i64 (v + z.y))).drew.heap[w.heap.size]? = _ := (Below.heap_setCell Y ⟨f, q, none⟩ (.int .i64 (v + z.y)) _ (by simp; omega)).trans aY
  have bZ : (Y.setCell ⟨f, q, none⟩ (.int .i64 (v + z.y))).drew.heap[w.heap.size + 1]? = _ := (Below.heap_setCell Y ⟨f, q, none⟩ (.int .i64 (v + z.y)) _ (by simp; omega)).trans bY
  have KZ := Lib.hid (Below.setCell KY.out (p := ⟨f, q, none⟩) (show w.heap.size ≤ f by omega) (.int .i64 (v + z.y))).drew
  have sZ : Y.heap.size = (Y.setCell ⟨f, q, none⟩ (.int .i64 (v + z.y))).drew.heap.size := by simp
  rw [← hZ] at R2 aZ bZ KZ sZ ⊢
  have hfZ : f < Z.heap.size := by omega
  have hZs : w.heap.size + 2 < Z.heap.size := by omega
  clear sZ sY s1
  clear hZ aY bY dY cY eY R1 KY ef ff hm3
  have cZ := cell_of_block aZ
  have lZ := lt_of_block aZ
  have HRE := Lib.hid ((O.out.below KZ.out).e.rows five_len)
  have hkc : (k : Int) ≤ (c0 : Int) := by omega
  go_upto_region 6 with (at_builtin; refine wpList_append_new (Z.heap.size + 1) rfl (.tmp 36) (.tmp 40) rfl eltEnt rfl rfl ((HRE.out.takeG k).below (by repeat' (first | with_reducible exact Below.refl _ _ | with_reducible assumption | with_reducible refine Below.alloc ?_ ?_ _ | with_reducible refine Below.drew ?_ | with_reducible refine Below.setCell ?_ ?_ _ | omega | (simp; omega) | (simp; done)))) (by have := HN0.out; simp only [List.length_take]; omega) (by simp only [maxLen]; omega) (by omega) (by simp <;> omega) ?_; intro x2 d2 w2 q2)
  have k2 := ((Below.refl Z.heap.size Z).alloc (Nat.le_refl _) (.cells #[] 92)).trans (q2.below.mono (by simp <;> omega))
  replace aZ := carryN k2 aZ
  replace bZ := carryN k2 bZ
  have K2 := Lib.hid (below_next KZ.out k2)
  have R3 := Lib.hid (show Row w2 Z.heap.size 92 x2 d2 5 Rq.cs (es.take k) from q2.row.low (Nat.le_succ _))
  have HB3 := Lib.hid (fun g (hg : rowBlk x2 d2 = some g) => q2.row.blk hg)
  have RF := Lib.hid (R2.out.below k2)
  have HR2 := Lib.hid (HRE.out.below k2)
  have s2 := k2.size
  clear q2 k2 R2 HRE KZ cZ lZ
  have cZ := cell_of_block aZ
  have lZ := lt_of_block aZ
  have hw1 : IntKind.i64.wrap ((k : Int) + 1) = (k : Int) + 1 := IntWalk.i64_in _ ⟨by omega, by omega⟩
  have hk2 : (0 : Int) ≤ (k : Int) + 1 := by omega
  have hk3 : (k : Int) + 1 ≤ (c0 : Int) := by omega
  have hk4 : (k : Int) + 1 ≤ (n0 : Int) := by omega
  have hT := HR2.out.tailG (k + 1) c0 (fun h => by have := HN0.out; simp only; omega)
  by_cases hcz : c0 = k + 1
  · rw [if_pos hcz] at hT
    have T := Lib.hid hT
    clear hT HR2
    go_upto_region 7 with (at_builtin; refine wpList_append_row rfl (.tmp 42) (.tmp 47) rfl (n0 - 1) eltEnt rfl rfl R3.out (ys := es.drop (k + 1)) T.out (by have := HN0.out; rw [List.length_take]; omega) (by rw [List.length_drop, HN0.out]) (by omega) (by simp only [maxLen]; omega) (by omega) (by omega) ?_; intro x3 d3 w3 q3; have cZ3 := cell_of_block ((q3.grown.block w.heap.size (by omega) (fun e => by have := HB3.out _ e.symm; omega)).trans aZ); have fZ3 := unfrozen_of_block ((q3.grown.block w.heap.size (by omega) (fun e => by have := HB3.out _ e.symm; omega)).trans aZ))
    obtain ⟨V, hV⟩ : ∃ V, V = w3.setCell ⟨w.heap.size, 0, none⟩ (.slice x3 (n0 - 1) d3) := ⟨_, rfl⟩
    have a3 := (q3.grown.block w.heap.size (by omega) (fun e => by have := HB3.out _ e.symm; omega)).trans aZ
    have b3 := (q3.grown.block (w.heap.size + 1) (by omega) (fun e => by have := HB3.out _ e.symm; omega)).trans bZ
    have aV := block_setCell (i := 0) a3 (.slice x3 (n0 - 1) d3)
    have bV := (Below.heap_setCell w3 ⟨w.heap.size, 0, none⟩ (.slice x3 (n0 - 1) d3) _ (by simp)).trans b3
    have RE := Lib.hid (q3.row.setOther (p := ⟨w.heap.size, 0, none⟩) (by simp; omega) (.slice x3 (n0 - 1) d3))
    have RG := Lib.hid ((RF.out.kept q3.grown (fun g hg e => by rw [hrf] at hg; injection hg with hg; have := HB3.out _ e; omega)).setOther (p := ⟨w.heap.size, 0, none⟩) (by simp; omega) (.slice x3 (n0 - 1) d3))
    have KV := Lib.hid (Below.setCell (K2.out.grown q3.grown (by omega) (fun g hg => by have := HB3.out _ hg; omega)) (p := ⟨w.heap.size, 0, none⟩) (Nat.le_refl _) (.slice x3 (n0 - 1) d3))
    rw [← hV] at aV bV RE RG KV ⊢
    simp only [List.setIfInBounds_toArray, List.set] at aV
    clear hV q3 a3 b3 aZ bZ cZ R3 RF K2 cZ3 fZ3 T HB3 cW
    have cA := cell_of_block aV
    have cB := cell_of_block bV
    have fB := unfrozen_of_block bV
    have lA := lt_of_block aV
    have lB := lt_of_block bV
    go_wp2_with fail
    refine bodyPost_ret (v := .agg #[.slice x3 (n0 - 1) d3, .slice (some ⟨f, 0, none⟩) 16 d1, .slice a2 n2 c2]) (by simp [results, Try.results139, go_sem, cB]) rfl ?_
    have he : es.take k ++ es.drop (k + 1) = es.eraseIdx k := (List.eraseIdx_eq_take_drop_succ es k).symm
    have hre := RE.out
    have hrg := RG.out
    have KV' := KV.out
    rw [he] at hre
    rw [HAD.out] at hrg
    rw [HS.out]
    refine ⟨x3, d3, some ⟨f, 0, none⟩, d1, rfl, O.out.newEF ?_ (B1 := Z.heap.size) (B2 := w.heap.size + 2) ?_ ?_ (by omega) (by omega) hB ?_, ?_⟩
    · exact (by repeat' (first | with_reducible exact Below.refl _ _ | with_reducible assumption | with_reducible refine Below.alloc ?_ ?_ _ | with_reducible refine Below.drew ?_ | with_reducible refine Below.setCell ?_ ?_ _ | omega | (simp; omega) | (simp; done)))
    · exact (((hre.setOther (by simp; omega) _).setOther (by simp; omega) _).setOther (by simp; omega) _)
    · exact (((((hrg.low (by omega)).setOther (by simp) _).setOther (by simp) _).setOther (by simp) _))
    · intro g e1 e2
      rw [hrf] at e2
      injection e2 with e2
      have := (hre.blk e1).1
      omega
    · exact (by repeat' (first | with_reducible exact Below.refl _ _ | with_reducible assumption | with_reducible refine Below.alloc ?_ ?_ _ | with_reducible refine Below.drew ?_ | with_reducible refine Below.setCell ?_ ?_ _ | omega | (simp; omega) | (simp; done)))
  · rw [if_neg hcz, Nat.zero_add] at hT
    have T := Lib.hid hT
    clear hT HR2
    go_upto_region 7 with (at_builtin; refine wpList_append_row rfl (.tmp 42) (.tmp 47) rfl (n0 - 1) eltEnt rfl rfl R3.out (ys := es.drop (k + 1)) T.out (by have := HN0.out; rw [List.length_take]; omega) (by rw [List.length_drop, HN0.out]) (by omega) (by simp only [maxLen]; omega) (by omega) (by omega) ?_; intro x3 d3 w3 q3; have cZ3 := cell_of_block ((q3.grown.block w.heap.size (by omega) (fun e => by have := HB3.out _ e.symm; omega)).trans aZ); have fZ3 := unfrozen_of_block ((q3.grown.block w.heap.size (by omega) (fun e => by have := HB3.out _ e.symm; omega)).trans aZ))
    obtain ⟨V, hV⟩ : ∃ V, V = w3.setCell ⟨w.heap.size, 0, none⟩ (.slice x3 (n0 - 1) d3) := ⟨_, rfl⟩
    have a3 := (q3.grown.block w.heap.size (by omega) (fun e => by have := HB3.out _ e.symm; omega)).trans aZ
    have b3 := (q3.grown.block (w.heap.size + 1) (by omega) (fun e => by have := HB3.out _ e.symm; omega)).trans bZ
    have aV := block_setCell (i := 0) a3 (.slice x3 (n0 - 1) d3)
    have bV := (Below.heap_setCell w3 ⟨w.heap.size, 0, none⟩ (.slice x3 (n0 - 1) d3) _ (by simp)).trans b3
    have RE := Lib.hid (q3.row.setOther (p := ⟨w.heap.size, 0, none⟩) (by simp; omega) (.slice x3 (n0 - 1) d3))
    have RG := Lib.hid ((RF.out.kept q3.grown (fun g hg e => by rw [hrf] at hg; injection hg with hg; have := HB3.out _ e; omega)).setOther (p := ⟨w.heap.size, 0, none⟩) (by simp; omega) (.slice x3 (n0 - 1) d3))
    have KV := Lib.hid (Below.setCell (K2.out.grown q3.grown (by omega) (fun g hg => by have := HB3.out _ hg; omega)) (p := ⟨w.heap.size, 0, none⟩) (Nat.le_refl _) (.slice x3 (n0 - 1) d3))
    rw [← hV] at aV bV RE RG KV ⊢
    simp only [List.setIfInBounds_toArray, List.set] at aV
    clear hV q3 a3 b3 aZ bZ cZ R3 RF K2 cZ3 fZ3 T HB3 cW
    have cA := cell_of_block aV
    have cB := cell_of_block bV
    have fB := unfrozen_of_block bV
    have lA := lt_of_block aV
    have lB := lt_of_block bV
    go_wp2_with fail
    refine bodyPost_ret (v := .agg #[.slice x3 (n0 - 1) d3, .slice (some ⟨f, 0, none⟩) 16 d1, .slice a2 n2 c2]) (by simp [results, Try.results139, go_sem, cB]) rfl ?_
    have he : es.take k ++ es.drop (k + 1) = es.eraseIdx k := (List.eraseIdx_eq_take_drop_succ es k).symm
    have hre := RE.out
    have hrg := RG.out
    have KV' := KV.out
    rw [he] at hre
    rw [HAD.out] at hrg
    rw [HS.out]
    refine ⟨x3, d3, some ⟨f, 0, none⟩, d1, rfl, O.out.newEF ?_ (B1 := Z.heap.size) (B2 := w.heap.size + 2) ?_ ?_ (by omega) (by omega) hB ?_, ?_⟩
    · exact (by repeat' (first | with_reducible exact Below.refl _ _ | with_reducible assumption | with_reducible refine Below.alloc ?_ ?_ _ | with_reducible refine Below.drew ?_ | with_reducible refine Below.setCell ?_ ?_ _ | omega | (simp; omega) | (simp; done)))
    · exact (((hre.setOther (by simp; omega) _).setOther (by simp; omega) _).setOther (by simp; omega) _)
    · exact (((((hrg.low (by omega)).setOther (by simp) _).setOther (by simp) _).setOther (by simp) _))
    · intro g e1 e2
      rw [hrf] at e2
      injection e2 with e2
      have := (hre.blk e1).1
      omega
    · exact (by repeat' (first | with_reducible exact Below.refl _ _ | with_reducible assumption | with_reducible refine Below.alloc ?_ ?_ _ | with_reducible refine Below.drew ?_ | with_reducible refine Below.setCell ?_ ?_ _ | omega | (simp; omega) | (simp; done)))
end Go.Proofs.Ytofedboeggdkaaa

/-! The reference's l2Hit; condition: small sizes. -/
namespace Go.Proofs.Ytofedboeggdkaaa
open Go.RowKit Go.Joins

/-- A game and a number, in rows of its own. -/
def RetG (B : Nat) (z : Gm) (c : Int) (w : World) (e : Ending) (w' : World) : Prop :=
  ∃ v, e = .returned (.tuple #[v, .int .i64 c]) ∧ OwnGm w' B v z ∧ Below w.heap.size w w'
theorem Own3.gmV {w : World} {B n0 n1 n2 c0 c1 c2 : Nat} {a0 a1 a2 : Option Addr} {z : Gm} (h : Own3 w B a0 c0 a1 c1 a2 c2 z) (h0 : z.es.length = n0) (h1 : z.fl.length = n1) (h2 : z.la.length = n2) : OwnGm w B (.agg #[.slice a0 n0 c0, .slice a1 n1 c1, .slice a2 n2 c2]) z := by
  subst h0 h1 h2
  exact h.gm
/-- What a hit does: too far, or a life less. -/
def hitR (g : Gm) (k : Nat) (o : Option Nat) : Gm × Int :=
  match o with
  | none => (g, 8)
  | some n => if n = k ∨ nearB (entN g.es k) (entN g.es n) = false then (g, 8) else (hitG g n, 0)
set_option maxRecDepth 100000 in
set_option maxHeartbeats 8000000 in
theorem l2Hit_no {B : Nat} {X : Nat → Prop} (es : List Rq) (fl la : List Int) (k n0 n2 : Nat) (a0 a1 a2 : Option Addr) (c0 c1 c2 : Nat) (m : Int) (w : World) (h : OwnX X w B a0 c0 a1 c1 a2 c2 ⟨es, fl, la⟩) (hn0 : es.length = n0) (hn1 : fl.length = 16) (hn2 : la.length = n2) (hk : k < n0) (h4 : n0 ≤ 4) (hB : B ≤ w.heap.size) (hp : Places es)
    (hm : m < 0 ∨ m = k) :
    Calls Try.prog 136 #[.agg #[.slice a0 n0 c0, .slice a1 16 c1, .slice a2 n2 c2], .int .i64 k, .int .i64 m] w (RetX X B ⟨es, fl, la⟩ 8 w) := by
  have O := Lib.hid h
  have HN0 := Lib.hid hn0
  have HN1 := Lib.hid hn1
  have HN2 := Lib.hid hn2
  have HP := Lib.hid hp
  have hle0 : n0 ≤ c0 := by have := h.e.len; simp only at this; omega
  have hc0m := h.e.max
  unfold maxLen at hc0m
  clear h hn0 hn1 hn2 hp
  go_enter Try.func136, Try.ntmps136
  go_upto_region 1 with fail
  obtain ⟨W, hW, sW, aW, bW, kW⟩ := blocks2 w (.cells #[.slice a0 n0 c0, .slice a1 16 c1, .slice a2 n2 c2] 46) (.cells #[.slice none 0 0, .slice none 0 0, .slice none 0 0] 46)
  rw [← hW]
  clear hW
  rcases hm with hm | hm
  · have hmd : decide (m < 0) = true := by simp; omega
    go_wp2_with fail
    refine wp_region_quiet_below (by kernel_rfl) (by kernel_rfl) ?_
    repeat (go_big_quiet_step (fail))
    refine wpQuiet_nil ?_
    intro _ hw'
    obtain ⟨⟨dq, osq⟩, hw''⟩ := hw'
    subst hw''
    have KW := Lib.hid (below_next kW (below_regrown W dq osq))
    have AW := Lib.hid (carryN (below_regrown W dq osq) aW)
    have BW := Lib.hid (carryN (below_regrown W dq osq) bW)
    clear aW bW kW
    have hOW := O.out.below KW.out
    have cA := cell_of_block AW.out
    have cB := cell_of_block BW.out
    have fB := unfrozen_of_block BW.out
    have lA := lt_of_block AW.out
    have lB := lt_of_block BW.out
    go_wp2_with fail
    refine bodyPost_ret (v := .tuple #[.agg #[.slice a0 n0 c0, .slice a1 16 c1, .slice a2 n2 c2], .int .i64 8]) (by simp [results, Try.results136, go_sem, cB]) rfl ?_
    have KW' := KW.out
    exact ⟨_, rfl, (O.out.below (by repeat' (first | with_reducible exact Below.refl _ _ | with_reducible assumption | with_reducible refine Below.alloc ?_ ?_ _ | with_reducible refine Below.drew ?_ | with_reducible refine Below.setCell ?_ ?_ _ | omega | (simp; omega) | (simp; done)))).gmV HN0.out HN1.out HN2.out, (by repeat' (first | with_reducible exact Below.refl _ _ | with_reducible assumption | with_reducible refine Below.alloc ?_ ?_ _ | with_reducible refine Below.drew ?_ | with_reducible refine Below.setCell ?_ ?_ _ | omega | (simp; omega) | (simp; done)))⟩
  · have hmd : decide (m < 0) = false := by simp; omega
    have hm0 : ¬ m < 0 := by omega
    subst hm
    go_wp2_with fail
    refine wp_region_quiet_below (by kernel_rfl) (by kernel_rfl) ?_
    repeat (go_big_quiet_step (fail))
    refine wpQuiet_nil ?_
    intro _ hw'
    obtain ⟨⟨dq, osq⟩, hw''⟩ := hw'
    subst hw''
    have KW := Lib.hid (below_next kW (below_regrown W dq osq))
    have AW := Lib.hid (carryN (below_regrown W dq osq) aW)
    have BW := Lib.hid (carryN (below_regrown W dq osq) bW)
    clear aW bW kW
    have hOW := O.out.below KW.out
    have cA := cell_of_block AW.out
    have cB := cell_of_block BW.out
    have fB := unfrozen_of_block BW.out
    have lA := lt_of_block AW.out
    have lB := lt_of_block BW.out
    go_wp2_with fail
    refine bodyPost_ret (v := .tuple #[.agg #[.slice a0 n0 c0, .slice a1 16 c1, .slice a2 n2 c2], .int .i64 8]) (by simp [results, Try.results136, go_sem, cB]) rfl ?_
    have KW' := KW.out
    exact ⟨_, rfl, (O.out.below (by repeat' (first | with_reducible exact Below.refl _ _ | with_reducible assumption | with_reducible refine Below.alloc ?_ ?_ _ | with_reducible refine Below.drew ?_ | with_reducible refine Below.setCell ?_ ?_ _ | omega | (simp; omega) | (simp; done)))).gmV HN0.out HN1.out HN2.out, (by repeat' (first | with_reducible exact Below.refl _ _ | with_reducible assumption | with_reducible refine Below.alloc ?_ ?_ _ | with_reducible refine Below.drew ?_ | with_reducible refine Below.setCell ?_ ?_ _ | omega | (simp; omega) | (simp; done)))⟩
set_option maxRecDepth 100000 in
set_option maxHeartbeats 8000000 in
theorem l2Hit_far {B : Nat} {X : Nat → Prop} (es : List Rq) (fl la : List Int) (k n n0 n2 : Nat) (a0 a1 a2 : Option Addr) (c0 c1 c2 : Nat) (w : World) (h : OwnX X w B a0 c0 a1 c1 a2 c2 ⟨es, fl, la⟩) (hn0 : es.length = n0) (hn1 : fl.length = 16) (hn2 : la.length = n2) (hk : k < n0) (h4 : n0 ≤ 4) (hB : B ≤ w.heap.size) (hp : Places es)
    (hn : n < n0) (hnk : n ≠ k) (hnear : nearB (entN es k) (entN es n) = false) :
    Calls Try.prog 136 #[.agg #[.slice a0 n0 c0, .slice a1 16 c1, .slice a2 n2 c2], .int .i64 k, .int .i64 n] w (RetX X B ⟨es, fl, la⟩ 8 w) := by
  have O := Lib.hid h
  have HN0 := Lib.hid hn0
  have HN1 := Lib.hid hn1
  have HN2 := Lib.hid hn2
  have HP := Lib.hid hp
  have hle0 : n0 ≤ c0 := by have := h.e.len; simp only at this; omega
  have hc0m := h.e.max
  unfold maxLen at hc0m
  obtain ⟨g0, hg0, hgB, hgl, e0, e1, e2, e3, e4, -, hr0⟩ := h.e.entAt (i := k) (by simp only; omega)
  obtain ⟨g1, hg1, -, -, d0, d1, d2, d3, d4, -, -⟩ := h.e.entAt (i := n) (by simp only; omega)
  have hgg : g0 = g1 := by rw [hg0] at hg1; injection hg1 with hg1; injection hg1
  subst hgg
  clear hg1
  simp only at e0 e1 e2 e3 e4 d0 d1 d2 d3 d4
  have hkz : k < es.length := by omega
  have hnz : n < es.length := by omega
  rw [entN_get hkz, entN_get hnz] at hnear
  have hPk := hp _ (List.getElem_mem hkz)
  have hPn := hp _ (List.getElem_mem hnz)
  have HGN := Lib.hid (entN_get hnz)
  subst hg0
  generalize hzk : es[k] = zk at *
  generalize hzn : es[n] = zn at *
  have HZN := Lib.hid hzn
  clear h hn0 hn1 hn2 hp hzk hzn
  go_enter Try.func136, Try.ntmps136
  go_upto_region 1 with fail
  obtain ⟨W, hW, sW, aW, bW, kW⟩ := blocks2 w (.cells #[.slice (some ⟨g0, 0, none⟩) n0 c0, .slice a1 16 c1, .slice a2 n2 c2] 46) (.cells #[.slice none 0 0, .slice none 0 0, .slice none 0 0] 46)
  rw [← hW]
  clear hW
  have x0 := cell_regrown ((kW.cell (p := ⟨g0, _, none⟩) hgl).trans e0)
  have x1 := cell_regrown ((kW.cell (p := ⟨g0, _, none⟩) hgl).trans e1)
  have x2 := cell_regrown ((kW.cell (p := ⟨g0, _, none⟩) hgl).trans e2)
  have x3 := cell_regrown ((kW.cell (p := ⟨g0, _, none⟩) hgl).trans e3)
  have x4 := cell_regrown ((kW.cell (p := ⟨g0, _, none⟩) hgl).trans e4)
  have y0 := cell_regrown ((kW.cell (p := ⟨g0, _, none⟩) hgl).trans d0)
  have y1 := cell_regrown ((kW.cell (p := ⟨g0, _, none⟩) hgl).trans d1)
  have y2 := cell_regrown ((kW.cell (p := ⟨g0, _, none⟩) hgl).trans d2)
  have y3 := cell_regrown ((kW.cell (p := ⟨g0, _, none⟩) hgl).trans d3)
  have y4 := cell_regrown ((kW.cell (p := ⟨g0, _, none⟩) hgl).trans d4)
  have ga := cellRe aW
  have cN := quietC (w := W) (fun V _ => l2Near_c zk zn V ⟨hPk.1.1, hPk.1.2, hPk.2.1.1, hPk.2.1.2⟩ ⟨hPn.1.1, hPn.1.2, hPn.2.1.1, hPn.2.1.2⟩)
  rw [hnear] at cN
  have hmd : decide ((n : Int) < 0) = false := by simp
  have hmn : ¬ (n : Int) < 0 := by omega
  have hmk : ((n : Int) == (k : Int)) = false := by simp; omega
  have hmk2 : ¬ (n : Int) = (k : Int) := by omega
  have hk0 : (0 : Int) ≤ (k : Int) := by omega
  have hk1 : (k : Int) < (n0 : Int) := by omega
  have hn0' : (0 : Int) ≤ (n : Int) := by omega
  have hn1' : (n : Int) < (n0 : Int) := by omega
  clear e0 e1 e2 e3 e4 d0 d1 d2 d3 d4 hnear
  go_wp2_with fail
  refine wp_region_quiet_below (by kernel_rfl) (by kernel_rfl) ?_
  repeat (go_big_quiet_step (first | with_reducible exact cN _ _))
  refine wpQuiet_nil ?_
  intro _ hw'
  obtain ⟨⟨dq, osq⟩, hw''⟩ := hw'
  subst hw''
  have KW := Lib.hid (below_next kW (below_regrown W dq osq))
  have AW := Lib.hid (carryN (below_regrown W dq osq) aW)
  have BW := Lib.hid (carryN (below_regrown W dq osq) bW)
  generalize Sort.grow (redrawn W dq) osq = X at *
  clear aW bW kW x0 x1 x2 x3 x4 y0 y1 y2 y3 y4 ga cN
  have hOW := O.out.below KW.out
  have cA := cell_of_block AW.out
  have cB := cell_of_block BW.out
  have fB := unfrozen_of_block BW.out
  have lA := lt_of_block AW.out
  have lB := lt_of_block BW.out
  go_wp2_with fail
  refine bodyPost_ret (v := .tuple #[.agg #[.slice (some ⟨g0, 0, none⟩) n0 c0, .slice a1 16 c1, .slice a2 n2 c2], .int .i64 8]) (by simp [results, Try.results136, go_sem, cB]) rfl ?_
  have KW' := KW.out
  exact ⟨_, rfl, (O.out.below (by repeat' (first | with_reducible exact Below.refl _ _ | with_reducible assumption | with_reducible refine Below.alloc ?_ ?_ _ | with_reducible refine Below.drew ?_ | with_reducible refine Below.setCell ?_ ?_ _ | omega | (simp; omega) | (simp; done)))).gmV HN0.out HN1.out HN2.out, (by repeat' (first | with_reducible exact Below.refl _ _ | with_reducible assumption | with_reducible refine Below.alloc ?_ ?_ _ | with_reducible refine Below.drew ?_ | with_reducible refine Below.setCell ?_ ?_ _ | omega | (simp; omega) | (simp; done)))⟩
set_option maxRecDepth 100000 in
set_option maxHeartbeats 8000000 in
theorem l2Hit_hit {B : Nat} {X : Nat → Prop} (es : List Rq) (fl la : List Int) (k n n0 n2 : Nat) (a0 a1 a2 : Option Addr) (c0 c1 c2 : Nat) (w : World) (h : OwnX X w B a0 c0 a1 c1 a2 c2 ⟨es, fl, la⟩) (hn0 : es.length = n0) (hn1 : fl.length = 16) (hn2 : la.length = n2) (hk : k < n0) (h4 : n0 ≤ 4) (hB : B ≤ w.heap.size) (hp : Places es)
    (hf : ∀ n ∈ fl, 0 ≤ n ∧ n ≤ 20) (hn : n < n0) (hnk : n ≠ k) (hnear : nearB (entN es k) (entN es n) = true) :
    Calls Try.prog 136 #[.agg #[.slice a0 n0 c0, .slice a1 16 c1, .slice a2 n2 c2], .int .i64 k, .int .i64 n] w (RetX X B (hitG ⟨es, fl, la⟩ n) 0 w) := by
  have HFF := Lib.hid hf
  clear hf
  have O := Lib.hid h
  have HN0 := Lib.hid hn0
  have HN1 := Lib.hid hn1
  have HN2 := Lib.hid hn2
  have HP := Lib.hid hp
  have hle0 : n0 ≤ c0 := by have := h.e.len; simp only at this; omega
  have hc0m := h.e.max
  unfold maxLen at hc0m
  obtain ⟨g0, hg0, hgB, hgl, e0, e1, e2, e3, e4, -, hr0⟩ := h.e.entAt (i := k) (by simp only; omega)
  obtain ⟨g1, hg1, -, -, d0, d1, d2, d3, d4, -, -⟩ := h.e.entAt (i := n) (by simp only; omega)
  have hgg : g0 = g1 := by rw [hg0] at hg1; injection hg1 with hg1; injection hg1
  subst hgg
  clear hg1
  simp only at e0 e1 e2 e3 e4 d0 d1 d2 d3 d4
  have hkz : k < es.length := by omega
  have hnz : n < es.length := by omega
  rw [entN_get hkz, entN_get hnz] at hnear
  have hPk := hp _ (List.getElem_mem hkz)
  have hPn := hp _ (List.getElem_mem hnz)
  have HGN := Lib.hid (entN_get hnz)
  subst hg0
  generalize hzk : es[k] = zk at *
  generalize hzn : es[n] = zn at *
  have HZN := Lib.hid hzn
  clear h hn0 hn1 hn2 hp hzk hzn
  go_enter Try.func136, Try.ntmps136
  go_upto_region 1 with fail
  obtain ⟨W, hW, sW, aW, bW, kW⟩ := blocks2 w (.cells #[.slice (some ⟨g0, 0, none⟩) n0 c0, .slice a1 16 c1, .slice a2 n2 c2] 46) (.cells #[.slice none 0 0, .slice none 0 0, .slice none 0 0] 46)
  rw [← hW]
  clear hW
  have x0 := cell_regrown ((kW.cell (p := ⟨g0, _, none⟩) hgl).trans e0)
  have x1 := cell_regrown ((kW.cell (p := ⟨g0, _, none⟩) hgl).trans e1)
  have x2 := cell_regrown ((kW.cell (p := ⟨g0, _, none⟩) hgl).trans e2)
  have x3 := cell_regrown ((kW.cell (p := ⟨g0, _, none⟩) hgl).trans e3)
  have x4 := cell_regrown ((kW.cell (p := ⟨g0, _, none⟩) hgl).trans e4)
  have y0 := cell_regrown ((kW.cell (p := ⟨g0, _, none⟩) hgl).trans d0)
  have y1 := cell_regrown ((kW.cell (p := ⟨g0, _, none⟩) hgl).trans d1)
  have y2 := cell_regrown ((kW.cell (p := ⟨g0, _, none⟩) hgl).trans d2)
  have y3 := cell_regrown ((kW.cell (p := ⟨g0, _, none⟩) hgl).trans d3)
  have y4 := cell_regrown ((kW.cell (p := ⟨g0, _, none⟩) hgl).trans d4)
  have ga := cellRe aW
  have cN := quietC (w := W) (fun V _ => l2Near_c zk zn V ⟨hPk.1.1, hPk.1.2, hPk.2.1.1, hPk.2.1.2⟩ ⟨hPn.1.1, hPn.1.2, hPn.2.1.1, hPn.2.1.2⟩)
  rw [hnear] at cN
  have hmd : decide ((n : Int) < 0) = false := by simp
  have hmn : ¬ (n : Int) < 0 := by omega
  have hmk : ((n : Int) == (k : Int)) = false := by simp; omega
  have hmk2 : ¬ (n : Int) = (k : Int) := by omega
  have hk0 : (0 : Int) ≤ (k : Int) := by omega
  have hk1 : (k : Int) < (n0 : Int) := by omega
  have hn0' : (0 : Int) ≤ (n : Int) := by omega
  have hn1' : (n : Int) < (n0 : Int) := by omega
  clear e0 e1 e2 e3 e4 d0 d1 d2 d3 d4 hnear
  go_wp2_with fail
  refine wp_region_quiet_below (by kernel_rfl) (by kernel_rfl) ?_
  repeat (go_big_quiet_step (first | with_reducible exact cN _ _))
  refine wpQuiet_nil ?_
  intro _ hw'
  obtain ⟨⟨dq, osq⟩, hw''⟩ := hw'
  subst hw''
  have KW := Lib.hid (below_next kW (below_regrown W dq osq))
  have AW := Lib.hid (carryN (below_regrown W dq osq) aW)
  have BW := Lib.hid (carryN (below_regrown W dq osq) bW)
  generalize Sort.grow (redrawn W dq) osq = X at *
  clear aW bW kW x0 x1 x2 x3 x4 y0 y1 y2 y3 y4 ga cN
  have aW := AW.out
  have bW := BW.out
  have cA := cell_of_block aW
  have lA := lt_of_block aW
  have lB := lt_of_block bW
  have hXl := lt_of_block bW
  have HRE := Lib.hid ((O.out.below KW.out).e.rows five_len)
  go_upto_region 4 with (at_builtin; refine wpList_append_new (X.heap.size + 1) rfl (.tmp 30) (.tmp 32) rfl eltEnt rfl rfl (HRE.out.below (by repeat' (first | with_reducible exact Below.refl _ _ | with_reducible assumption | with_reducible refine Below.alloc ?_ ?_ _ | with_reducible refine Below.drew ?_ | with_reducible refine Below.setCell ?_ ?_ _ | omega | (simp; omega) | (simp; done)))) HN0.out (by simp only [maxLen]; omega) (by omega) (by simp <;> omega) ?_; intro x1 d1 w1 q1; have k1 := ((Below.refl X.heap.size X).alloc (Nat.le_refl _) (.cells #[] 92)).trans (q1.below.mono (by simp <;> omega)); have cW := cell_of_block (carryN k1 aW); have fW := unfrozen_of_block (carryN k1 aW))
  obtain ⟨Y, hY⟩ : ∃ Y, Y = w1.setCell ⟨w.heap.size, 0, none⟩ (.slice x1 n0 d1) := ⟨_, rfl⟩
  have R1 := Lib.hid (show Row (w1.setCell ⟨w.heap.size, 0, none⟩ (.slice x1 n0 d1)) X.heap.size 92 x1 d1 5 Rq.cs es from (q1.row.low (Nat.le_succ _)).setOther (p := ⟨w.heap.size, 0, none⟩) (by simp; omega) (.slice x1 n0 d1))
  have aY := block_setCell (i := 0) (carryN k1 aW) (.slice x1 n0 d1)
  have bY := (Below.heap_setCell w1 ⟨w.heap.size, 0, none⟩ (.slice x1 n0 d1) _ (by simp)).trans (carryN k1 bW)
  have KY := Lib.hid (Below.setCell (below_next KW.out k1) (p := ⟨w.heap.size, 0, none⟩) (Nat.le_refl _) (.slice x1 n0 d1))
  rw [← hY] at R1 aY bY KY ⊢
  simp only [List.setIfInBounds_toArray, List.set] at aY
  clear hY q1 k1 cW fW aW bW AW BW KW HRE cA lA lB
  obtain ⟨g2, hg2, hg2B, hg2l, -, -, -, f3, -, ff, hr2⟩ := R1.out.entAt (i := n) (by rw [HN0.out]; exact hn)
  subst hg2
  rw [HZN.out] at f3
  have hnz' : n < es.length := by rw [HN0.out]; exact hn
  have R2 := Lib.hid (R1.out.setOne five_len hnz' (j := 3) (by decide) ({ zn with x := zn.x - 1 } : Rq) (.int .i64 (zn.x - 1)) rfl (fun j' h1 h2 => by
    rw [HZN.out]
    have : j' = 0 ∨ j' = 1 ∨ j' = 2 ∨ j' = 4 := by omega
    rcases this with rfl | rfl | rfl | rfl <;> rfl) rfl).drew
  have hm3 : IntKind.i64.wrap (zn.x - 1) = zn.x - 1 := IntWalk.i64_in _ ⟨by omega, by omega⟩
  have ff3 := ff (n * 5 + 3)
  clear ff
  have cY := cell_of_block aY
  have lY := lt_of_block aY
  have hg2w : w.heap.size + 1 < g2 := by omega
  have ne_ : ¬ (w.heap.size = g2) := by omega
  have ne_ : ¬ (g2 = w.heap.size) := by omega
  go_still_tail 12, (by kernel_rfl)
  change wpList _ _ _ _ _ Y.drew
  go_upto_region 5 with fail
  obtain ⟨Z, hZ⟩ : ∃ Z, Z = (Y.setCell ⟨g2, n * 5 + 3, none⟩ (.int .i64 (zn.x - 1))).drew := ⟨_, rfl⟩
  have aZ : (Y.setCell ⟨g2, n * 5 + 3, none⟩ (.int .i64 (zn.x - 1))).drew.heap[w.heap.size]? = _ := (Below.heap_setCell Y ⟨g2, n * 5 + 3, none⟩ (.int .i64 (zn.x - 1)) _ (by simp; omega)).trans aY
  have bZ : (Y.setCell ⟨g2, n * 5 + 3, none⟩ (.int .i64 (zn.x - 1))).drew.heap[w.heap.size + 1]? = _ := (Below.heap_setCell Y ⟨g2, n * 5 + 3, none⟩ (.int .i64 (zn.x - 1)) _ (by simp; omega)).trans bY
  have KZ := Lib.hid (Below.setCell KY.out (p := ⟨g2, n * 5 + 3, none⟩) (show w.heap.size ≤ g2 by omega) (.int .i64 (zn.x - 1))).drew
  rw [← hZ] at R2 aZ bZ KZ ⊢
  clear hZ aY bY cY lY R1 KY f3 ff3 hm3
  have cZ := cell_of_block aZ
  have fZ := unfrozen_of_block aZ
  have lZ := lt_of_block aZ
  obtain ⟨g3, hg3, -, hg3l, -, -, -, f3, -, -, -⟩ := R2.out.entAt (i := n) (by rw [List.length_set, HN0.out]; exact hn)
  injection hg3 with hg3
  injection hg3 with hg3
  subst hg3
  simp only [List.getElem_set_self] at f3
  have O2 := Lib.hid (O.out.newE KZ.out R2.out (by omega) hB)
  have HL2 := Lib.hid (show (es.set n ({ zn with x := zn.x - 1 } : Rq)).length = n0 by rw [List.length_set]; exact HN0.out)
  have bZ' := Lib.hid bZ
  by_cases hx : zn.x - 1 ≤ 0
  · have HG := Lib.hid (show hitG ⟨es, fl, la⟩ n = ⟨(es.set n ({ zn with x := zn.x - 1 } : Rq)).eraseIdx n, addAt fl (sqOf (entN (es.set n ({ zn with x := zn.x - 1 } : Rq)) n)) (entN (es.set n ({ zn with x := zn.x - 1 } : Rq)) n).y, la⟩ by
      have e1 : entN (es.set n ({ zn with x := zn.x - 1 } : Rq)) n = { zn with x := zn.x - 1 } := by rw [entN_get (by rw [List.length_set]; exact hnz')]; simp
      unfold hitG
      rw [e1]
      simp only [HGN.out]
      rw [if_pos hx]
      congr 1
      rw [List.eraseIdx_set_eq])
    have hEN : entN (es.set n ({ zn with x := zn.x - 1 } : Rq)) n = { zn with x := zn.x - 1 } := by rw [entN_get (by rw [List.length_set]; exact hnz')]; simp
    have CD := Lib.hid (fun (V : World) (k : Below Z.heap.size Z V) => l2Drop_c (B := B) (es.set n ({ zn with x := zn.x - 1 } : Rq)) fl la n n0 n2 _ _ _ d1 c1 c2 V (O2.out.below k) HL2.out HN1.out hn h4 (Nat.le_trans hB (Nat.le_trans KZ.out.size k.size)) (by rw [hEN]; exact ⟨hPn.1, hPn.2.1, hPn.2.2.2⟩) HFF.out)
    clear hEN
    go_wp2_with fail
    refine (CD.out Z (Below.refl _ _)).mono ?_
    rintro e w5 ⟨b0, e0, b1, e1, rfl, o5, k5⟩
    have aW := carryN k5 aZ
    have bW := carryN k5 bZ
    have K5 := Lib.hid (below_next KZ.out k5)
    have O5 := Lib.hid o5
    clear o5 k5 cZ fZ lZ aZ bZ f3
    have cA := cell_of_block aW
    have fA := unfrozen_of_block aW
    have cB := cell_of_block bW
    have fB := unfrozen_of_block bW
    have lA := lt_of_block aW
    have lB := lt_of_block bW
    go_upto_region 7 with fail
    obtain ⟨V, hV⟩ : ∃ V, V = ((w5.setCell ⟨w.heap.size, 0, none⟩ (.slice b0 (n0 - 1 : Nat) e0)).setCell ⟨w.heap.size, 1, none⟩ (.slice b1 16 e1)).setCell ⟨w.heap.size, 2, none⟩ (.slice a2 n2 c2) := ⟨_, rfl⟩
    have OV := Lib.hid (O5.out.set3 aW (.slice b0 (n0 - 1 : Nat) e0) (.slice b1 16 e1) (.slice a2 n2 c2))
    have aV := block_set3 aW (.slice b0 (n0 - 1 : Nat) e0) (.slice b1 16 e1) (.slice a2 n2 c2)
    have bV := (block_kept3 (w := w5) (b := w.heap.size + 1) (G := w.heap.size) (by omega) (.slice b0 (n0 - 1 : Nat) e0) (.slice b1 16 e1) (.slice a2 n2 c2)).trans bW
    have KV := Lib.hid (below_set3 K5.out (Nat.le_refl _) (.slice b0 (n0 - 1 : Nat) e0) (.slice b1 16 e1) (.slice a2 n2 c2))
    rw [← hV] at OV aV bV KV ⊢
    clear hV aW bW cA fA cB fB lA lB O5 K5
    have cA := cell_of_block aV
    have cB := cell_of_block bV
    have fB := unfrozen_of_block bV
    have lA := lt_of_block aV
    have lB := lt_of_block bV
    have OF := Lib.hid (OV.out.set3 bV (.slice b0 (n0 - 1 : Nat) e0) (.slice b1 16 e1) (.slice a2 n2 c2))
    have KF := Lib.hid (below_set3 KV.out (Nat.le_succ _) (.slice b0 (n0 - 1 : Nat) e0) (.slice b1 16 e1) (.slice a2 n2 c2))
    go_wp2_with fail
    refine bodyPost_ret (v := .tuple #[.agg #[.slice b0 (n0 - 1) e0, .slice b1 16 e1, .slice a2 n2 c2], .int .i64 0]) (by simp [results, Try.results136, go_sem, cB]) rfl ?_
    rw [HG.out]
    refine ⟨_, rfl, OF.out.gmV ?_ ?_ HN2.out, KF.out⟩
    · rw [List.length_eraseIdx_of_lt (by rw [HL2.out]; exact hn), HL2.out]
    · unfold addAt
      simp only [List.length_set]
      exact HN1.out
  · have HG := Lib.hid (show hitG ⟨es, fl, la⟩ n = ⟨es.set n ({ zn with x := zn.x - 1 } : Rq), fl, la⟩ by
      unfold hitG
      simp only [HGN.out]
      rw [if_neg hx])
    have cB := cell_of_block bZ
    have fB := unfrozen_of_block bZ
    have lB := lt_of_block bZ
    go_wp2_with fail
    refine bodyPost_ret (v := .tuple #[.agg #[.slice (some ⟨g2, 0, none⟩) n0 d1, .slice a1 16 c1, .slice a2 n2 c2], .int .i64 0]) (by simp [results, Try.results136, go_sem, cB]) rfl ?_
    rw [HG.out]
    have KZ' := KZ.out
    have R2' := R2.out
    refine ⟨_, rfl, (O.out.newE (B' := w.heap.size + 2) ?_ ?_ (by omega) hB).gmV HL2.out HN1.out HN2.out, (by repeat' (first | with_reducible exact Below.refl _ _ | with_reducible assumption | with_reducible refine Below.alloc ?_ ?_ _ | with_reducible refine Below.drew ?_ | with_reducible refine Below.setCell ?_ ?_ _ | omega | (simp; omega) | (simp; done)))⟩
    · exact (by repeat' (first | with_reducible exact Below.refl _ _ | with_reducible assumption | with_reducible refine Below.alloc ?_ ?_ _ | with_reducible refine Below.drew ?_ | with_reducible refine Below.setCell ?_ ?_ _ | omega | (simp; omega) | (simp; done)))
    · exact ((((R2'.low (by omega)).setOther (by simp) _).setOther (by simp) _).setOther (by simp) _)
theorem l2Hit_c {B : Nat} {X : Nat → Prop} (es : List Rq) (fl la : List Int) (k n0 n2 : Nat) (o : Option Nat) (a0 a1 a2 : Option Addr) (c0 c1 c2 : Nat) (w : World) (h : OwnX X w B a0 c0 a1 c1 a2 c2 ⟨es, fl, la⟩) (hn0 : es.length = n0) (hn1 : fl.length = 16) (hn2 : la.length = n2) (hk : k < n0) (h4 : n0 ≤ 4) (hB : B ≤ w.heap.size) (hp : Places es)
    (hf : ∀ n ∈ fl, 0 ≤ n ∧ n ≤ 20) (ho : ∀ n, o = some n → n < n0) :
    Calls Try.prog 136 #[.agg #[.slice a0 n0 c0, .slice a1 16 c1, .slice a2 n2 c2], .int .i64 k, .int .i64 (optI o)] w (RetX X B (hitR ⟨es, fl, la⟩ k o).1 (hitR ⟨es, fl, la⟩ k o).2 w) := by
  cases o with
  | none => exact l2Hit_no es fl la k n0 n2 a0 a1 a2 c0 c1 c2 (-1) w h hn0 hn1 hn2 hk h4 hB hp (.inl (by decide))
  | some n =>
    have hn := ho n rfl
    by_cases hnk : n = k
    · have e : hitR ⟨es, fl, la⟩ k (some n) = (⟨es, fl, la⟩, 8) := by simp [hitR, hnk]
      rw [e]
      exact l2Hit_no es fl la k n0 n2 a0 a1 a2 c0 c1 c2 (n : Int) w h hn0 hn1 hn2 hk h4 hB hp (.inr (by rw [hnk]))
    · cases hb : nearB (entN es k) (entN es n) with
      | false =>
        have e : hitR ⟨es, fl, la⟩ k (some n) = (⟨es, fl, la⟩, 8) := by simp [hitR, hb]
        rw [e]
        exact l2Hit_far es fl la k n n0 n2 a0 a1 a2 c0 c1 c2 w h hn0 hn1 hn2 hk h4 hB hp hn hnk hb
      | true =>
        have e : hitR ⟨es, fl, la⟩ k (some n) = (hitG ⟨es, fl, la⟩ n, 0) := by simp [hitR, hb, hnk]
        rw [e]
        exact l2Hit_hit es fl la k n n0 n2 a0 a1 a2 c0 c1 c2 w h hn0 hn1 hn2 hk h4 hB hp hf hn hnk hb
end Go.Proofs.Ytofedboeggdkaaa

/-! The reference's l2Act; condition: small sizes. -/
namespace Go.Proofs.Ytofedboeggdkaaa
open Go.RowKit Go.Joins

set_option maxRecDepth 100000 in
set_option maxHeartbeats 8000000 in
theorem l2Act_move_no {B : Nat} {X : Nat → Prop} (es : List Rq) (fl la : List Int) (k n0 n2 : Nat) (a0 a1 a2 : Option Addr) (c0 c1 c2 : Nat) (c n x y : Int) (w : World) (h : OwnX X w B a0 c0 a1 c1 a2 c2 ⟨es, fl, la⟩) (hn0 : es.length = n0) (hn1 : fl.length = 16) (hn2 : la.length = n2) (hk : k < n0) (h4 : n0 ≤ 4) (hB : B ≤ w.heap.size) (hp : Places es) (hf : ∀ n ∈ fl, 0 ≤ n ∧ n ≤ 20)
    (hx : -1 ≤ x ∧ x ≤ 4) (hy : -1 ≤ y ∧ y ≤ 9) (hb : (inB ((entN es k).n + x) 0 3 && inB ((entN es k).o + y) 0 3) = false) :
    Calls Try.prog 124 #[.agg #[.slice a0 n0 c0, .slice a1 16 c1, .slice a2 n2 c2], .int .i64 k, .agg #[.int .i64 c, .int .i64 n, .int .i64 2, .int .i64 x, .int .i64 y]] w (RetX X B ⟨es, fl, la⟩ 6 w) := by
  have O := Lib.hid h
  have HN0 := Lib.hid hn0
  have HN1 := Lib.hid hn1
  have HN2 := Lib.hid hn2
  have HP := Lib.hid hp
  have HF := Lib.hid hf
  have hle0 : n0 ≤ c0 := by have := h.e.len; simp only at this; omega
  have hc0m := h.e.max
  unfold maxLen at hc0m
  have hle1 : 16 ≤ c1 := by have := h.f.len; simp only at this; omega
  have hkz : k < es.length := by omega
  obtain ⟨g0, hg0, hgB, hgl, e0, e1, e2, e3, e4, -, hr0⟩ := h.e.entAt (i := k) hkz
  simp only at e0 e1 e2 e3 e4
  subst hg0
  have hPk := hp _ (List.getElem_mem hkz)
  have hGK := entN_get hkz
  clear h hn0 hn1 hn2 hp hf hr0
  rw [hGK] at hb
  generalize hzk : es[k] = z at *
  have HGK := Lib.hid hGK
  have HZK := Lib.hid hzk
  clear hzk hGK
  go_enter Try.func124, Try.ntmps124
  go_upto_region 1 with fail
  obtain ⟨W, hW, sW, aW, qW, bW, kW⟩ := blocks3 w (.cells #[.slice (some ⟨g0, 0, none⟩) n0 c0, .slice a1 16 c1, .slice a2 n2 c2] 46) (.cells #[.int .i64 c, .int .i64 n, .int .i64 2, .int .i64 x, .int .i64 y] 34) (.cells #[.slice none 0 0, .slice none 0 0, .slice none 0 0] 46)
  rw [← hW]
  clear hW
  have f0 := (kW.cell (p := ⟨g0, _, none⟩) hgl).trans e0
  have f1 := (kW.cell (p := ⟨g0, _, none⟩) hgl).trans e1
  have f2 := (kW.cell (p := ⟨g0, _, none⟩) hgl).trans e2
  have f3 := (kW.cell (p := ⟨g0, _, none⟩) hgl).trans e3
  have f4 := (kW.cell (p := ⟨g0, _, none⟩) hgl).trans e4
  have cA := cell_of_block aW
  have hk0 : (0 : Int) ≤ (k : Int) := by omega
  have hk1 : (k : Int) < (n0 : Int) := by omega
  go_upto_region 2 with fail
  obtain ⟨X, hX, sX, dX, kX⟩ := blocks1 W (.cells #[.int .i64 z.c, .int .i64 z.n, .int .i64 z.o, .int .i64 z.x, .int .i64 z.y] 92)
  rw [← hX]
  clear hX
  rw [sW] at dX
  replace aW := carryN kX aW
  replace bW := carryN kX bW
  replace qW := carryN kX qW
  have KX := Lib.hid (below_next kW kX)
  have lX : w.heap.size + 3 < X.heap.size := by omega
  clear kW kX sX sW f0 f1 f2 f3 f4 e0 e1 e2 e3 e4 cA
  have cA := cell_of_block aW
  have cQ := cell_of_block qW
  have cD := cell_of_block dX
  have fD := unfrozen_of_block dX
  have cB := cell_of_block bW
  have fB := unfrozen_of_block bW
  have lA := lt_of_block aW
  have lB := lt_of_block bW
  have lQ := lt_of_block qW
  have lD := lt_of_block dX
  have ne_ : ¬ (w.heap.size = w.heap.size + 1) := by omega
  have ne_ : ¬ (w.heap.size + 1 = w.heap.size) := by omega
  have ne_ : ¬ (w.heap.size = w.heap.size + 2) := by omega
  have ne_ : ¬ (w.heap.size + 2 = w.heap.size) := by omega
  have ne_ : ¬ (w.heap.size = w.heap.size + 3) := by omega
  have ne_ : ¬ (w.heap.size + 3 = w.heap.size) := by omega
  have ne_ : ¬ (w.heap.size + 1 = w.heap.size + 3) := by omega
  have ne_ : ¬ (w.heap.size + 3 = w.heap.size + 1) := by omega
  have ne_ : ¬ (w.heap.size + 2 = w.heap.size + 3) := by omega
  have ne_ : ¬ (w.heap.size + 3 = w.heap.size + 2) := by omega
  have HCQ := cQ
  have hm1 : IntKind.i64.wrap (z.n + x) = z.n + x := IntWalk.i64_in _ ⟨by omega, by omega⟩
  have hm2 : IntKind.i64.wrap (z.o + y) = z.o + y := IntWalk.i64_in _ ⟨by omega, by omega⟩
  cases hb1 : inB (z.n + x) 0 3 with
  | false =>
    go_wp2_with (go_at_call 104; refine (l1In_c _ _ _ _).mono ?_; rintro e w' ⟨rfl, rfl⟩)
    refine bodyPost_ret (v := .tuple #[.agg #[.slice (some ⟨g0, 0, none⟩) n0 c0, .slice a1 16 c1, .slice a2 n2 c2], .int .i64 6]) (by simp [results, Try.results124, go_sem, cB]) rfl ?_
    have KX' := KX.out
    exact ⟨_, rfl, (O.out.below (by repeat' (first | with_reducible exact Below.refl _ _ | with_reducible assumption | with_reducible refine Below.alloc ?_ ?_ _ | with_reducible refine Below.drew ?_ | with_reducible refine Below.setCell ?_ ?_ _ | omega | (simp; omega) | (simp; done)))).gmV HN0.out HN1.out HN2.out, (by repeat' (first | with_reducible exact Below.refl _ _ | with_reducible assumption | with_reducible refine Below.alloc ?_ ?_ _ | with_reducible refine Below.drew ?_ | with_reducible refine Below.setCell ?_ ?_ _ | omega | (simp; omega) | (simp; done)))⟩
  | true =>
    have hb2 : inB (z.o + y) 0 3 = false := by rw [hb1, Bool.true_and] at hb; exact hb
    go_wp2_with (go_at_call 104; refine (l1In_c _ _ _ _).mono ?_; rintro e w' ⟨rfl, rfl⟩)
    refine bodyPost_ret (v := .tuple #[.agg #[.slice (some ⟨g0, 0, none⟩) n0 c0, .slice a1 16 c1, .slice a2 n2 c2], .int .i64 6]) (by simp [results, Try.results124, go_sem, cB]) rfl ?_
    have KX' := KX.out
    exact ⟨_, rfl, (O.out.below (by repeat' (first | with_reducible exact Below.refl _ _ | with_reducible assumption | with_reducible refine Below.alloc ?_ ?_ _ | with_reducible refine Below.drew ?_ | with_reducible refine Below.setCell ?_ ?_ _ | omega | (simp; omega) | (simp; done)))).gmV HN0.out HN1.out HN2.out, (by repeat' (first | with_reducible exact Below.refl _ _ | with_reducible assumption | with_reducible refine Below.alloc ?_ ?_ _ | with_reducible refine Below.drew ?_ | with_reducible refine Below.setCell ?_ ?_ _ | omega | (simp; omega) | (simp; done)))⟩
set_option maxRecDepth 100000 in
set_option maxHeartbeats 8000000 in
theorem l2Act_move {B : Nat} {X : Nat → Prop} (es : List Rq) (fl la : List Int) (k n0 n2 : Nat) (a0 a1 a2 : Option Addr) (c0 c1 c2 : Nat) (c n x y : Int) (w : World) (h : OwnX X w B a0 c0 a1 c1 a2 c2 ⟨es, fl, la⟩) (hn0 : es.length = n0) (hn1 : fl.length = 16) (hn2 : la.length = n2) (hk : k < n0) (h4 : n0 ≤ 4) (hB : B ≤ w.heap.size) (hp : Places es) (hf : ∀ n ∈ fl, 0 ≤ n ∧ n ≤ 20)
    (hx : -1 ≤ x ∧ x ≤ 4) (hy : -1 ≤ y ∧ y ≤ 9) (hb : (inB ((entN es k).n + x) 0 3 && inB ((entN es k).o + y) 0 3) = true) :
    Calls Try.prog 124 #[.agg #[.slice a0 n0 c0, .slice a1 16 c1, .slice a2 n2 c2], .int .i64 k, .agg #[.int .i64 c, .int .i64 n, .int .i64 2, .int .i64 x, .int .i64 y]] w (RetX X B ⟨es.set k { (entN es k) with n := (entN es k).n + x, o := (entN es k).o + y }, fl, la⟩ 0 w) := by
  have O := Lib.hid h
  have HN0 := Lib.hid hn0
  have HN1 := Lib.hid hn1
  have HN2 := Lib.hid hn2
  have HP := Lib.hid hp
  have HF := Lib.hid hf
  have hle0 : n0 ≤ c0 := by have := h.e.len; simp only at this; omega
  have hc0m := h.e.max
  unfold maxLen at hc0m
  have hle1 : 16 ≤ c1 := by have := h.f.len; simp only at this; omega
  have hkz : k < es.length := by omega
  obtain ⟨g0, hg0, hgB, hgl, e0, e1, e2, e3, e4, -, hr0⟩ := h.e.entAt (i := k) hkz
  simp only at e0 e1 e2 e3 e4
  subst hg0
  have hPk := hp _ (List.getElem_mem hkz)
  have hGK := entN_get hkz
  clear h hn0 hn1 hn2 hp hf hr0
  rw [hGK] at hb
  generalize hzk : es[k] = z at *
  have HGK := Lib.hid hGK
  have HZK := Lib.hid hzk
  clear hzk hGK
  go_enter Try.func124, Try.ntmps124
  go_upto_region 1 with fail
  obtain ⟨W, hW, sW, aW, qW, bW, kW⟩ := blocks3 w (.cells #[.slice (some ⟨g0, 0, none⟩) n0 c0, .slice a1 16 c1, .slice a2 n2 c2] 46) (.cells #[.int .i64 c, .int .i64 n, .int .i64 2, .int .i64 x, .int .i64 y] 34) (.cells #[.slice none 0 0, .slice none 0 0, .slice none 0 0] 46)
  rw [← hW]
  clear hW
  have f0 := (kW.cell (p := ⟨g0, _, none⟩) hgl).trans e0
  have f1 := (kW.cell (p := ⟨g0, _, none⟩) hgl).trans e1
  have f2 := (kW.cell (p := ⟨g0, _, none⟩) hgl).trans e2
  have f3 := (kW.cell (p := ⟨g0, _, none⟩) hgl).trans e3
  have f4 := (kW.cell (p := ⟨g0, _, none⟩) hgl).trans e4
  have cA := cell_of_block aW
  have hk0 : (0 : Int) ≤ (k : Int) := by omega
  have hk1 : (k : Int) < (n0 : Int) := by omega
  go_upto_region 2 with fail
  obtain ⟨X, hX, sX, dX, kX⟩ := blocks1 W (.cells #[.int .i64 z.c, .int .i64 z.n, .int .i64 z.o, .int .i64 z.x, .int .i64 z.y] 92)
  rw [← hX]
  clear hX
  rw [sW] at dX
  replace aW := carryN kX aW
  replace bW := carryN kX bW
  replace qW := carryN kX qW
  have KX := Lib.hid (below_next kW kX)
  have lX : w.heap.size + 3 < X.heap.size := by omega
  clear kW kX sX sW f0 f1 f2 f3 f4 e0 e1 e2 e3 e4 cA
  have cA := cell_of_block aW
  have cQ := cell_of_block qW
  have cD := cell_of_block dX
  have fD := unfrozen_of_block dX
  have cB := cell_of_block bW
  have fB := unfrozen_of_block bW
  have lA := lt_of_block aW
  have lB := lt_of_block bW
  have lQ := lt_of_block qW
  have lD := lt_of_block dX
  have ne_ : ¬ (w.heap.size = w.heap.size + 1) := by omega
  have ne_ : ¬ (w.heap.size + 1 = w.heap.size) := by omega
  have ne_ : ¬ (w.heap.size = w.heap.size + 2) := by omega
  have ne_ : ¬ (w.heap.size + 2 = w.heap.size) := by omega
  have ne_ : ¬ (w.heap.size = w.heap.size + 3) := by omega
  have ne_ : ¬ (w.heap.size + 3 = w.heap.size) := by omega
  have ne_ : ¬ (w.heap.size + 1 = w.heap.size + 3) := by omega
  have ne_ : ¬ (w.heap.size + 3 = w.heap.size + 1) := by omega
  have ne_ : ¬ (w.heap.size + 2 = w.heap.size + 3) := by omega
  have ne_ : ¬ (w.heap.size + 3 = w.heap.size + 2) := by omega
  have hm1 : IntKind.i64.wrap (z.n + x) = z.n + x := IntWalk.i64_in _ ⟨by omega, by omega⟩
  have hm2 : IntKind.i64.wrap (z.o + y) = z.o + y := IntWalk.i64_in _ ⟨by omega, by omega⟩
  simp only [Bool.and_eq_true] at hb
  obtain ⟨hb1, hb2⟩ := hb
  go_upto_region 25 with (go_at_call 104; refine (l1In_c _ _ _ _).mono ?_; rintro e w' ⟨rfl, rfl⟩)
  obtain ⟨Y, hY⟩ : ∃ Y, Y = (X.setCell ⟨w.heap.size + 3, 1, none⟩ (.int .i64 (z.n + x))).setCell ⟨w.heap.size + 3, 2, none⟩ (.int .i64 (z.o + y)) := ⟨_, rfl⟩
  have dY := block_setCell (i := 2) (block_setCell (i := 1) dX (.int .i64 (z.n + x))) (.int .i64 (z.o + y))
  have aY := (Below.heap_setCell (X.setCell ⟨w.heap.size + 3, 1, none⟩ (.int .i64 (z.n + x))) ⟨w.heap.size + 3, 2, none⟩ (.int .i64 (z.o + y)) _ (by simp)).trans ((Below.heap_setCell X ⟨w.heap.size + 3, 1, none⟩ (.int .i64 (z.n + x)) _ (by simp)).trans aW)
  have bY := (Below.heap_setCell (X.setCell ⟨w.heap.size + 3, 1, none⟩ (.int .i64 (z.n + x))) ⟨w.heap.size + 3, 2, none⟩ (.int .i64 (z.o + y)) _ (by simp)).trans ((Below.heap_setCell X ⟨w.heap.size + 3, 1, none⟩ (.int .i64 (z.n + x)) _ (by simp)).trans bW)
  have KY := Lib.hid (Below.setCell (Below.setCell KX.out (p := ⟨w.heap.size + 3, 1, none⟩) (by simp) (.int .i64 (z.n + x))) (p := ⟨w.heap.size + 3, 2, none⟩) (by simp) (.int .i64 (z.o + y)))
  rw [← hY] at dY aY bY KY ⊢
  simp only [List.setIfInBounds_toArray, List.set] at dY
  clear hY dX aW bW qW KX cA cQ cD fD cB fB lA lB lQ lD lX
  have aW := aY
  have bW := bY
  have dX := dY
  have KX := KY
  clear aY bY dY KY
  have HRE := Lib.hid ((O.out.below KX.out).e.rows five_len)
  have lCur := lt_of_block dX
  obtain ⟨ez, hez⟩ : ∃ ez : Rq, ez = { z with n := z.n + x, o := z.o + y } := ⟨_, rfl⟩
  have HEZ := Lib.hid hez
  have dE : Y.heap[w.heap.size + 3]? = some (.cells #[.int .i64 ez.c, .int .i64 ez.n, .int .i64 ez.o, .int .i64 ez.x, .int .i64 ez.y] 92 (0, 0)) := by rw [hez]; exact dX
  clear dX hez
  have cA := cell_of_block aW
  have lA := lt_of_block aW
  have lB := lt_of_block bW
  have lD := lt_of_block dE
  go_upto_region 26 with (at_builtin; refine wpList_append_new (Y.heap.size + 1) rfl (.tmp 147) (.tmp 149) rfl eltEnt rfl rfl (HRE.out.below (by repeat' (first | with_reducible exact Below.refl _ _ | with_reducible assumption | with_reducible refine Below.alloc ?_ ?_ _ | with_reducible refine Below.drew ?_ | with_reducible refine Below.setCell ?_ ?_ _ | omega | (simp; omega) | (simp; done)))) HN0.out (by simp only [maxLen]; omega) (by omega) (by simp <;> omega) ?_; intro x9 d9 w9 q9; have k9 := ((Below.refl Y.heap.size Y).alloc (Nat.le_refl _) (.cells #[] 92)).trans (q9.below.mono (by simp <;> omega)); have cA := cell_of_block (carryN k9 aW); have fA := unfrozen_of_block (carryN k9 aW))
  obtain ⟨S, hS⟩ : ∃ S, S = w9.setCell ⟨w.heap.size, 0, none⟩ (.slice x9 n0 d9) := ⟨_, rfl⟩
  have R9 := Lib.hid (show Row (w9.setCell ⟨w.heap.size, 0, none⟩ (.slice x9 n0 d9)) Y.heap.size 92 x9 d9 5 Rq.cs (es) from (q9.row.low (Nat.le_succ _)).setType (carryN k9 aW) (by decide) 0 (.slice x9 n0 d9))
  have aS := block_setCell (i := 0) (carryN k9 aW) (.slice x9 n0 d9)
  have bS := (Below.heap_setCell w9 ⟨w.heap.size, 0, none⟩ (.slice x9 n0 d9) _ (by simp)).trans (carryN k9 bW)
  have dS := (Below.heap_setCell w9 ⟨w.heap.size, 0, none⟩ (.slice x9 n0 d9) _ (by simp)).trans (carryN k9 dE)
  have KS := Lib.hid (Below.setCell (below_next KX.out k9) (p := ⟨w.heap.size, 0, none⟩) (Nat.le_refl _) (.slice x9 n0 d9))
  rw [← hS] at R9 aS bS dS KS ⊢
  simp only [List.setIfInBounds_toArray, List.set] at aS
  clear hS q9 k9 cA fA aW bW dE lA lB lD HRE KX
  obtain ⟨g9, hg9, hg9B, hg9l, s0, s1, s2, s3, s4, ff, hr9⟩ := R9.out.entAt (i := k) (by first | exact hkz | (simp only [List.length_set]; exact hkz))
  subst hg9
  have ff0 := ff (k * 5)
  have ff1 := ff (k * 5 + 1)
  have ff2 := ff (k * 5 + 2)
  have ff3 := ff (k * 5 + 3)
  have ff4 := ff (k * 5 + 4)
  clear ff
  have cA := cell_of_block aS
  have cD := cell_of_block dS
  have lA := lt_of_block aS
  have lB := lt_of_block bS
  have lD := lt_of_block dS
  have hg9w : w.heap.size + 3 < g9 := by omega
  have ne_ : ¬ (w.heap.size = g9) := by omega
  have ne_ : ¬ (g9 = w.heap.size) := by omega
  have ne_ : ¬ (w.heap.size + 3 = g9) := by omega
  have ne_ : ¬ (g9 = w.heap.size + 3) := by omega
  go_upto_region 27 with fail
  obtain ⟨V, hV⟩ : ∃ V, V = five5 S g9 (k * 5) ez := ⟨_, rfl⟩
  have RV := Lib.hid (R9.out.setFive (k := k) (by first | exact hkz | (simp only [List.length_set]; exact hkz)) ez)
  have aV := (block_kept5 (w := S) (g := g9) (o := k * 5) (b := w.heap.size) (by omega) ez).trans aS
  have bV := (block_kept5 (w := S) (g := g9) (o := k * 5) (b := w.heap.size + 2) (by omega) ez).trans bS
  have KV := Lib.hid (below_set5 KS.out (show w.heap.size ≤ g9 by omega) (k * 5) ez)
  have hV2 := hV
  unfold five5 at hV2
  rw [← hV] at RV aV bV KV
  rw [← hV2]
  clear hV hV2 aS bS dS R9 KS s0 s1 s2 s3 s4 ff0 ff1 ff2 ff3 ff4 cA cD lA lB lD
  have cA := cell_of_block aV
  have cB := cell_of_block bV
  have fB := unfrozen_of_block bV
  have lA := lt_of_block aV
  have lB := lt_of_block bV
  have KF := Lib.hid (below_set3 KV.out (show w.heap.size ≤ w.heap.size + 2 by omega) (.slice (some ⟨g9, 0, none⟩) n0 d9) (.slice a1 16 c1) (.slice a2 n2 c2))
  have RVF := Lib.hid (((RV.out.setType bV (by decide) 0 (.slice (some ⟨g9, 0, none⟩) n0 d9)).setType (block_setCell bV _) (by decide) 1 (.slice a1 16 c1)).setType (block_setCell (block_setCell bV _) _) (by decide) 2 (.slice a2 n2 c2))
  go_wp2_with fail
  refine bodyPost_ret (v := .tuple #[.agg #[.slice (some ⟨g9, 0, none⟩) n0 d9, .slice a1 16 c1, .slice a2 n2 c2], .int .i64 0]) (by simp [results, Try.results124, go_sem, cB]) rfl ?_
  rw [HGK.out, ← HEZ.out]
  exact ⟨_, rfl, (O.out.newE KF.out RVF.out (by omega) hB).gmV (by simp only [List.length_set]; exact HN0.out) HN1.out HN2.out, KF.out⟩
set_option maxRecDepth 100000 in
set_option maxHeartbeats 8000000 in
theorem l2Act_take_no {B : Nat} {X : Nat → Prop} (es : List Rq) (fl la : List Int) (k n0 n2 : Nat) (a0 a1 a2 : Option Addr) (c0 c1 c2 : Nat) (c n x y : Int) (w : World) (h : OwnX X w B a0 c0 a1 c1 a2 c2 ⟨es, fl, la⟩) (hn0 : es.length = n0) (hn1 : fl.length = 16) (hn2 : la.length = n2) (hk : k < n0) (h4 : n0 ≤ 4) (hB : B ≤ w.heap.size) (hp : Places es) (hf : ∀ n ∈ fl, 0 ≤ n ∧ n ≤ 20)
    (hx : -1 ≤ x ∧ x ≤ 4) (hy : -1 ≤ y ∧ y ≤ 9) (hv : fl.getD (sqOf (entN es k)) 0 = 0) :
    Calls Try.prog 124 #[.agg #[.slice a0 n0 c0, .slice a1 16 c1, .slice a2 n2 c2], .int .i64 k, .agg #[.int .i64 c, .int .i64 n, .int .i64 3, .int .i64 x, .int .i64 y]] w (RetX X B ⟨es, fl, la⟩ 7 w) := by
  have O := Lib.hid h
  have HN0 := Lib.hid hn0
  have HN1 := Lib.hid hn1
  have HN2 := Lib.hid hn2
  have HP := Lib.hid hp
  have HF := Lib.hid hf
  have hle0 : n0 ≤ c0 := by have := h.e.len; simp only at this; omega
  have hc0m := h.e.max
  unfold maxLen at hc0m
  have hle1 : 16 ≤ c1 := by have := h.f.len; simp only at this; omega
  have hkz : k < es.length := by omega
  obtain ⟨g0, hg0, hgB, hgl, e0, e1, e2, e3, e4, -, hr0⟩ := h.e.entAt (i := k) hkz
  simp only at e0 e1 e2 e3 e4
  subst hg0
  have hPk := hp _ (List.getElem_mem hkz)
  have hGK := entN_get hkz
  clear h hn0 hn1 hn2 hp hf hr0
  rw [hGK] at hv
  generalize hzk : es[k] = z at *
  have HGK := Lib.hid hGK
  have HZK := Lib.hid hzk
  clear hzk hGK
  go_enter Try.func124, Try.ntmps124
  go_upto_region 1 with fail
  obtain ⟨W, hW, sW, aW, qW, bW, kW⟩ := blocks3 w (.cells #[.slice (some ⟨g0, 0, none⟩) n0 c0, .slice a1 16 c1, .slice a2 n2 c2] 46) (.cells #[.int .i64 c, .int .i64 n, .int .i64 3, .int .i64 x, .int .i64 y] 34) (.cells #[.slice none 0 0, .slice none 0 0, .slice none 0 0] 46)
  rw [← hW]
  clear hW
  have f0 := (kW.cell (p := ⟨g0, _, none⟩) hgl).trans e0
  have f1 := (kW.cell (p := ⟨g0, _, none⟩) hgl).trans e1
  have f2 := (kW.cell (p := ⟨g0, _, none⟩) hgl).trans e2
  have f3 := (kW.cell (p := ⟨g0, _, none⟩) hgl).trans e3
  have f4 := (kW.cell (p := ⟨g0, _, none⟩) hgl).trans e4
  have cA := cell_of_block aW
  have hk0 : (0 : Int) ≤ (k : Int) := by omega
  have hk1 : (k : Int) < (n0 : Int) := by omega
  go_upto_region 2 with fail
  obtain ⟨X, hX, sX, dX, kX⟩ := blocks1 W (.cells #[.int .i64 z.c, .int .i64 z.n, .int .i64 z.o, .int .i64 z.x, .int .i64 z.y] 92)
  rw [← hX]
  clear hX
  rw [sW] at dX
  replace aW := carryN kX aW
  replace bW := carryN kX bW
  replace qW := carryN kX qW
  have KX := Lib.hid (below_next kW kX)
  have lX : w.heap.size + 3 < X.heap.size := by omega
  clear kW kX sX sW f0 f1 f2 f3 f4 e0 e1 e2 e3 e4 cA
  have cA := cell_of_block aW
  have cQ := cell_of_block qW
  have cD := cell_of_block dX
  have fD := unfrozen_of_block dX
  have cB := cell_of_block bW
  have fB := unfrozen_of_block bW
  have lA := lt_of_block aW
  have lB := lt_of_block bW
  have lQ := lt_of_block qW
  have lD := lt_of_block dX
  have ne_ : ¬ (w.heap.size = w.heap.size + 1) := by omega
  have ne_ : ¬ (w.heap.size + 1 = w.heap.size) := by omega
  have ne_ : ¬ (w.heap.size = w.heap.size + 2) := by omega
  have ne_ : ¬ (w.heap.size + 2 = w.heap.size) := by omega
  have ne_ : ¬ (w.heap.size = w.heap.size + 3) := by omega
  have ne_ : ¬ (w.heap.size + 3 = w.heap.size) := by omega
  have ne_ : ¬ (w.heap.size + 1 = w.heap.size + 3) := by omega
  have ne_ : ¬ (w.heap.size + 3 = w.heap.size + 1) := by omega
  have ne_ : ¬ (w.heap.size + 2 = w.heap.size + 3) := by omega
  have ne_ : ¬ (w.heap.size + 3 = w.heap.size + 2) := by omega
  have HS := Lib.hid (show sqOf z = (z.o * 4 + z.n).toNat from rfl)
  obtain ⟨q, hq, hq2⟩ : ∃ q : Nat, z.o * 4 + z.n = (q : Int) ∧ q < 16 := ⟨(z.o * 4 + z.n).toNat, by omega, by omega⟩
  have hqs : sqOf z = q := by unfold sqOf; omega
  have hm1 : IntKind.i64.wrap (z.o * 4) = z.o * 4 := IntWalk.i64_in _ ⟨by omega, by omega⟩
  have hm2 : IntKind.i64.wrap (z.o * 4 + z.n) = z.o * 4 + z.n := IntWalk.i64_in _ ⟨by omega, by omega⟩
  have hq0 : (0 : Int) ≤ (q : Int) := by omega
  have hq1 : (q : Int) < 16 := by omega
  obtain ⟨f0, hf0, -, hf0l, ef, -, hrf0⟩ := (O.out.below KX.out).f.intAt (i := q) (by simp only; rw [HN1.out]; exact hq2)
  simp only at ef
  have hqz : q < fl.length := by rw [HN1.out]; exact hq2
  have hfq := HF.out _ (List.getElem_mem hqz)
  rw [hqs, List.getD_eq_getElem?_getD, List.getElem?_eq_getElem hqz, Option.getD_some] at hv
  subst hf0
  rw [hv] at ef
  clear HS hfq
  go_wp2_with fail
  refine bodyPost_ret (v := .tuple #[.agg #[.slice (some ⟨g0, 0, none⟩) n0 c0, .slice (some ⟨f0, 0, none⟩) 16 c1, .slice a2 n2 c2], .int .i64 7]) (by simp [results, Try.results124, go_sem, cB]) rfl ?_
  have KX' := KX.out
  exact ⟨_, rfl, (O.out.below (by repeat' (first | with_reducible exact Below.refl _ _ | with_reducible assumption | with_reducible refine Below.alloc ?_ ?_ _ | with_reducible refine Below.drew ?_ | with_reducible refine Below.setCell ?_ ?_ _ | omega | (simp; omega) | (simp; done)))).gmV HN0.out HN1.out HN2.out, (by repeat' (first | with_reducible exact Below.refl _ _ | with_reducible assumption | with_reducible refine Below.alloc ?_ ?_ _ | with_reducible refine Below.drew ?_ | with_reducible refine Below.setCell ?_ ?_ _ | omega | (simp; omega) | (simp; done)))⟩
set_option maxRecDepth 100000 in
set_option maxHeartbeats 8000000 in
theorem l2Act_take {B : Nat} {X : Nat → Prop} (es : List Rq) (fl la : List Int) (k n0 n2 : Nat) (a0 a1 a2 : Option Addr) (c0 c1 c2 : Nat) (c n x y : Int) (w : World) (h : OwnX X w B a0 c0 a1 c1 a2 c2 ⟨es, fl, la⟩) (hn0 : es.length = n0) (hn1 : fl.length = 16) (hn2 : la.length = n2) (hk : k < n0) (h4 : n0 ≤ 4) (hB : B ≤ w.heap.size) (hp : Places es) (hf : ∀ n ∈ fl, 0 ≤ n ∧ n ≤ 20)
    (hx : -1 ≤ x ∧ x ≤ 4) (hy : -1 ≤ y ∧ y ≤ 9) (hv : ¬ fl.getD (sqOf (entN es k)) 0 = 0) :
    Calls Try.prog 124 #[.agg #[.slice a0 n0 c0, .slice a1 16 c1, .slice a2 n2 c2], .int .i64 k, .agg #[.int .i64 c, .int .i64 n, .int .i64 3, .int .i64 x, .int .i64 y]] w (RetX X B ⟨es.set k { (entN es k) with y := (entN es k).y + 1 }, addAt fl (sqOf (entN es k)) (-1), la⟩ 0 w) := by
  have O := Lib.hid h
  have HN0 := Lib.hid hn0
  have HN1 := Lib.hid hn1
  have HN2 := Lib.hid hn2
  have HP := Lib.hid hp
  have HF := Lib.hid hf
  have hle0 : n0 ≤ c0 := by have := h.e.len; simp only at this; omega
  have hc0m := h.e.max
  unfold maxLen at hc0m
  have hle1 : 16 ≤ c1 := by have := h.f.len; simp only at this; omega
  have hkz : k < es.length := by omega
  obtain ⟨g0, hg0, hgB, hgl, e0, e1, e2, e3, e4, -, hr0⟩ := h.e.entAt (i := k) hkz
  simp only at e0 e1 e2 e3 e4
  subst hg0
  have hPk := hp _ (List.getElem_mem hkz)
  have hGK := entN_get hkz
  clear h hn0 hn1 hn2 hp hf hr0
  rw [hGK] at hv
  generalize hzk : es[k] = z at *
  have HGK := Lib.hid hGK
  have HZK := Lib.hid hzk
  clear hzk hGK
  go_enter Try.func124, Try.ntmps124
  go_upto_region 1 with fail
  obtain ⟨W, hW, sW, aW, qW, bW, kW⟩ := blocks3 w (.cells #[.slice (some ⟨g0, 0, none⟩) n0 c0, .slice a1 16 c1, .slice a2 n2 c2] 46) (.cells #[.int .i64 c, .int .i64 n, .int .i64 3, .int .i64 x, .int .i64 y] 34) (.cells #[.slice none 0 0, .slice none 0 0, .slice none 0 0] 46)
  rw [← hW]
  clear hW
  have f0 := (kW.cell (p := ⟨g0, _, none⟩) hgl).trans e0
  have f1 := (kW.cell (p := ⟨g0, _, none⟩) hgl).trans e1
  have f2 := (kW.cell (p := ⟨g0, _, none⟩) hgl).trans e2
  have f3 := (kW.cell (p := ⟨g0, _, none⟩) hgl).trans e3
  have f4 := (kW.cell (p := ⟨g0, _, none⟩) hgl).trans e4
  have cA := cell_of_block aW
  have hk0 : (0 : Int) ≤ (k : Int) := by omega
  have hk1 : (k : Int) < (n0 : Int) := by omega
  go_upto_region 2 with fail
  obtain ⟨X, hX, sX, dX, kX⟩ := blocks1 W (.cells #[.int .i64 z.c, .int .i64 z.n, .int .i64 z.o, .int .i64 z.x, .int .i64 z.y] 92)
  rw [← hX]
  clear hX
  rw [sW] at dX
  replace aW := carryN kX aW
  replace bW := carryN kX bW
  replace qW := carryN kX qW
  have KX := Lib.hid (below_next kW kX)
  have lX : w.heap.size + 3 < X.heap.size := by omega
  clear kW kX sX sW f0 f1 f2 f3 f4 e0 e1 e2 e3 e4 cA
  have cA := cell_of_block aW
  have cQ := cell_of_block qW
  have cD := cell_of_block dX
  have fD := unfrozen_of_block dX
  have cB := cell_of_block bW
  have fB := unfrozen_of_block bW
  have lA := lt_of_block aW
  have lB := lt_of_block bW
  have lQ := lt_of_block qW
  have lD := lt_of_block dX
  have ne_ : ¬ (w.heap.size = w.heap.size + 1) := by omega
  have ne_ : ¬ (w.heap.size + 1 = w.heap.size) := by omega
  have ne_ : ¬ (w.heap.size = w.heap.size + 2) := by omega
  have ne_ : ¬ (w.heap.size + 2 = w.heap.size) := by omega
  have ne_ : ¬ (w.heap.size = w.heap.size + 3) := by omega
  have ne_ : ¬ (w.heap.size + 3 = w.heap.size) := by omega
  have ne_ : ¬ (w.heap.size + 1 = w.heap.size + 3) := by omega
  have ne_ : ¬ (w.heap.size + 3 = w.heap.size + 1) := by omega
  have ne_ : ¬ (w.heap.size + 2 = w.heap.size + 3) := by omega
  have ne_ : ¬ (w.heap.size + 3 = w.heap.size + 2) := by omega
  have HS := Lib.hid (show sqOf z = (z.o * 4 + z.n).toNat from rfl)
  obtain ⟨q, hq, hq2⟩ : ∃ q : Nat, z.o * 4 + z.n = (q : Int) ∧ q < 16 := ⟨(z.o * 4 + z.n).toNat, by omega, by omega⟩
  have hqs : sqOf z = q := by unfold sqOf; omega
  have hm1 : IntKind.i64.wrap (z.o * 4) = z.o * 4 := IntWalk.i64_in _ ⟨by omega, by omega⟩
  have hm2 : IntKind.i64.wrap (z.o * 4 + z.n) = z.o * 4 + z.n := IntWalk.i64_in _ ⟨by omega, by omega⟩
  have hq0 : (0 : Int) ≤ (q : Int) := by omega
  have hq1 : (q : Int) < 16 := by omega
  obtain ⟨f0, hf0, -, hf0l, ef, -, hrf0⟩ := (O.out.below KX.out).f.intAt (i := q) (by simp only; rw [HN1.out]; exact hq2)
  simp only at ef
  have hqz : q < fl.length := by rw [HN1.out]; exact hq2
  have hfq := HF.out _ (List.getElem_mem hqz)
  rw [hqs, List.getD_eq_getElem?_getD, List.getElem?_eq_getElem hqz, Option.getD_some] at hv
  subst hf0
  have HQS := Lib.hid hqs
  have HAD := Lib.hid (show fl.set q (fl[q] - 1) = addAt fl (sqOf z) (-1) by rw [hqs]; unfold addAt; rw [List.getD_eq_getElem?_getD, List.getElem?_eq_getElem hqz]; rfl)
  clear HS hqs
  obtain ⟨v, hvv⟩ : ∃ v, fl[q] = v := ⟨_, rfl⟩
  have HVV := Lib.hid hvv
  rw [hvv] at hv ef hfq HAD
  have hvb : (v == 0) = false := by simpa using hv
  have hm3 : IntKind.i64.wrap (v - 1) = v - 1 := IntWalk.i64_in _ ⟨by omega, by omega⟩
  have hm4 : IntKind.i64.wrap (z.y + 1) = z.y + 1 := IntWalk.i64_in _ ⟨by omega, by omega⟩
  clear hvv
  have HFR := Lib.hid ((O.out.below KX.out).f.rows int_len)
  go_upto_region 21 with (at_builtin; refine wpList_append_new (X.heap.size + 1) rfl (.tmp 117) (.tmp 119) rfl eltInt rfl rfl (HFR.out.below (by repeat' (first | with_reducible exact Below.refl _ _ | with_reducible assumption | with_reducible refine Below.alloc ?_ ?_ _ | with_reducible refine Below.drew ?_ | with_reducible refine Below.setCell ?_ ?_ _ | omega | (simp; omega) | (simp; done)))) HN1.out (by simp only [maxLen]; omega) (by omega) (by simp <;> omega) ?_; intro x1 d1 w1 q1; have k1 := ((Below.refl X.heap.size X).alloc (Nat.le_refl _) (.cells #[] 3)).trans (q1.below.mono (by simp <;> omega)); have cA := cell_of_block (carryN k1 aW); have fA := unfrozen_of_block (carryN k1 aW))
  obtain ⟨Y, hY⟩ : ∃ Y, Y = w1.setCell ⟨w.heap.size, 1, none⟩ (.slice x1 16 d1) := ⟨_, rfl⟩
  have R1 := Lib.hid (show Row (w1.setCell ⟨w.heap.size, 1, none⟩ (.slice x1 16 d1)) X.heap.size 3 x1 d1 1 intR fl from (q1.row.low (Nat.le_succ _)).setType (carryN k1 aW) (by decide) 1 (.slice x1 16 d1))
  have aY := block_setCell (i := 1) (carryN k1 aW) (.slice x1 16 d1)
  have bY := (Below.heap_setCell w1 ⟨w.heap.size, 1, none⟩ (.slice x1 16 d1) _ (by simp)).trans (carryN k1 bW)
  have dY := (Below.heap_setCell w1 ⟨w.heap.size, 1, none⟩ (.slice x1 16 d1) _ (by simp)).trans (carryN k1 dX)
  have KY := Lib.hid (Below.setCell (below_next KX.out k1) (p := ⟨w.heap.size, 1, none⟩) (Nat.le_refl _) (.slice x1 16 d1))
  rw [← hY] at R1 aY bY dY KY ⊢
  simp only [List.setIfInBounds_toArray, List.set] at aY
  have hXl := lX
  clear hY q1 k1 cA fA aW bW dX qW KX HFR cQ cD fD cB fB lA lB lQ lD lX ef
  obtain ⟨f, hf, hfB, hfl, ef, ff, hrf⟩ := R1.out.intAt (i := q) (by rw [HN1.out]; exact hq2)
  rw [HVV.out] at ef
  subst hf
  have HRF := Lib.hid (fun g' (hg' : rowBlk (some ⟨f, 0, none⟩) d1 = some g') => (show w.heap.size + 3 < g' ∧ g' < Y.heap.size by rw [hrf] at hg'; injection hg' with hg'; omega))
  have R2 := Lib.hid (R1.out.setInt (i := q) (by rw [HN1.out]; exact hq2) (v - 1)).drew
  have cA := cell_of_block aY
  have cD := cell_of_block dY
  have lA := lt_of_block aY
  have lD := lt_of_block dY
  have ne_ : ¬ (w.heap.size = f) := by omega
  have ne_ : ¬ (f = w.heap.size) := by omega
  have ne_ : ¬ (w.heap.size + 3 = f) := by omega
  have ne_ : ¬ (f = w.heap.size + 3) := by omega
  go_still_tail 10, (by kernel_rfl)
  change wpList _ _ _ _ _ Y.drew
  go_upto_region 22 with fail
  obtain ⟨Z, hZ⟩ : ∃ Z, Z = (Y.setCell ⟨f, q, none⟩ (.int .i64 (v - 1))).drew := ⟨_, rfl⟩
  have aZ : (Y.setCell ⟨f, q, none⟩ (.int .i64 (v - 1))).drew.heap[w.heap.size]? = _ := (Below.heap_setCell Y ⟨f, q, none⟩ (.int .i64 (v - 1)) _ (by simp; omega)).trans aY
  have bZ : (Y.setCell ⟨f, q, none⟩ (.int .i64 (v - 1))).drew.heap[w.heap.size + 2]? = _ := (Below.heap_setCell Y ⟨f, q, none⟩ (.int .i64 (v - 1)) _ (by simp; omega)).trans bY
  have dZ : (Y.setCell ⟨f, q, none⟩ (.int .i64 (v - 1))).drew.heap[w.heap.size + 3]? = _ := (Below.heap_setCell Y ⟨f, q, none⟩ (.int .i64 (v - 1)) _ (by simp; omega)).trans dY
  have KZ := Lib.hid (Below.setCell KY.out (p := ⟨f, q, none⟩) (show w.heap.size ≤ f by omega) (.int .i64 (v - 1))).drew
  have sZ : Y.heap.size = (Y.setCell ⟨f, q, none⟩ (.int .i64 (v - 1))).drew.heap.size := by simp
  rw [← hZ] at R2 aZ bZ dZ KZ sZ ⊢
  clear hZ aY bY dY cA cD lA lD R1 KY ef ff
  have cD := cell_of_block dZ
  have fD := unfrozen_of_block dZ
  have lD := lt_of_block dZ
  go_upto_region 25 with fail
  obtain ⟨U, hU⟩ : ∃ U, U = Z.setCell ⟨w.heap.size + 3, 4, none⟩ (.int .i64 (z.y + 1)) := ⟨_, rfl⟩
  have dU := block_setCell (i := 4) dZ (.int .i64 (z.y + 1))
  have aU := (Below.heap_setCell Z ⟨w.heap.size + 3, 4, none⟩ (.int .i64 (z.y + 1)) _ (by simp)).trans aZ
  have bU := (Below.heap_setCell Z ⟨w.heap.size + 3, 4, none⟩ (.int .i64 (z.y + 1)) _ (by simp)).trans bZ
  have KU := Lib.hid (Below.setCell KZ.out (p := ⟨w.heap.size + 3, 4, none⟩) (by simp) (.int .i64 (z.y + 1)))
  have RU := Lib.hid (R2.out.setType dZ (by decide) 4 (.int .i64 (z.y + 1)))
  have sU : Z.heap.size = (Z.setCell ⟨w.heap.size + 3, 4, none⟩ (.int .i64 (z.y + 1))).heap.size := by simp
  rw [← hU] at dU aU bU KU RU sU ⊢
  simp only [List.setIfInBounds_toArray, List.set] at dU
  have HRF2 := Lib.hid (fun g' (hg' : rowBlk (some ⟨f, 0, none⟩) d1 = some g') => (show w.heap.size + 3 < g' ∧ g' < U.heap.size by have := HRF.out g' hg'; omega))
  clear hU dZ aZ bZ KZ R2 cD fD lD sU sZ HRF
  have aW := aU
  have bW := bU
  have dX := dU
  have KX := KU
  have HRF := HRF2
  clear aU bU dU KU HRF2
  have HRE := Lib.hid ((O.out.below KX.out).e.rows five_len)
  have lCur := lt_of_block dX
  obtain ⟨ez, hez⟩ : ∃ ez : Rq, ez = { z with y := z.y + 1 } := ⟨_, rfl⟩
  have HEZ := Lib.hid hez
  have dE : U.heap[w.heap.size + 3]? = some (.cells #[.int .i64 ez.c, .int .i64 ez.n, .int .i64 ez.o, .int .i64 ez.x, .int .i64 ez.y] 92 (0, 0)) := by rw [hez]; exact dX
  clear dX hez
  have cA := cell_of_block aW
  have lA := lt_of_block aW
  have lB := lt_of_block bW
  have lD := lt_of_block dE
  go_upto_region 26 with (at_builtin; refine wpList_append_new (U.heap.size + 1) rfl (.tmp 147) (.tmp 149) rfl eltEnt rfl rfl (HRE.out.below (by repeat' (first | with_reducible exact Below.refl _ _ | with_reducible assumption | with_reducible refine Below.alloc ?_ ?_ _ | with_reducible refine Below.drew ?_ | with_reducible refine Below.setCell ?_ ?_ _ | omega | (simp; omega) | (simp; done)))) HN0.out (by simp only [maxLen]; omega) (by omega) (by simp <;> omega) ?_; intro x9 d9 w9 q9; have k9 := ((Below.refl U.heap.size U).alloc (Nat.le_refl _) (.cells #[] 92)).trans (q9.below.mono (by simp <;> omega)); have cA := cell_of_block (carryN k9 aW); have fA := unfrozen_of_block (carryN k9 aW))
  obtain ⟨S, hS⟩ : ∃ S, S = w9.setCell ⟨w.heap.size, 0, none⟩ (.slice x9 n0 d9) := ⟨_, rfl⟩
  have R9 := Lib.hid (show Row (w9.setCell ⟨w.heap.size, 0, none⟩ (.slice x9 n0 d9)) U.heap.size 92 x9 d9 5 Rq.cs (es) from (q9.row.low (Nat.le_succ _)).setType (carryN k9 aW) (by decide) 0 (.slice x9 n0 d9))
  have aS := block_setCell (i := 0) (carryN k9 aW) (.slice x9 n0 d9)
  have bS := (Below.heap_setCell w9 ⟨w.heap.size, 0, none⟩ (.slice x9 n0 d9) _ (by simp)).trans (carryN k9 bW)
  have dS := (Below.heap_setCell w9 ⟨w.heap.size, 0, none⟩ (.slice x9 n0 d9) _ (by simp)).trans (carryN k9 dE)
  have KS := Lib.hid (Below.setCell (below_next KX.out k9) (p := ⟨w.heap.size, 0, none⟩) (Nat.le_refl _) (.slice x9 n0 d9))
  have RF9 := Lib.hid ((RU.out.below k9).setType (carryN k9 aW) (by decide) 0 (.slice x9 n0 d9))
  rw [← hS] at R9 aS bS dS KS RF9 ⊢
  simp only [List.setIfInBounds_toArray, List.set] at aS
  clear hS q9 k9 cA fA aW bW dE lA lB lD HRE KX RU
  obtain ⟨g9, hg9, hg9B, hg9l, s0, s1, s2, s3, s4, ff, hr9⟩ := R9.out.entAt (i := k) (by first | exact hkz | (simp only [List.length_set]; exact hkz))
  subst hg9
  have ff0 := ff (k * 5)
  have ff1 := ff (k * 5 + 1)
  have ff2 := ff (k * 5 + 2)
  have ff3 := ff (k * 5 + 3)
  have ff4 := ff (k * 5 + 4)
  clear ff
  have cA := cell_of_block aS
  have cD := cell_of_block dS
  have lA := lt_of_block aS
  have lB := lt_of_block bS
  have lD := lt_of_block dS
  have hg9w : w.heap.size + 3 < g9 := by omega
  have ne_ : ¬ (w.heap.size = g9) := by omega
  have ne_ : ¬ (g9 = w.heap.size) := by omega
  have ne_ : ¬ (w.heap.size + 3 = g9) := by omega
  have ne_ : ¬ (g9 = w.heap.size + 3) := by omega
  go_upto_region 27 with fail
  obtain ⟨V, hV⟩ : ∃ V, V = five5 S g9 (k * 5) ez := ⟨_, rfl⟩
  have RV := Lib.hid (R9.out.setFive (k := k) (by first | exact hkz | (simp only [List.length_set]; exact hkz)) ez)
  have aV := (block_kept5 (w := S) (g := g9) (o := k * 5) (b := w.heap.size) (by omega) ez).trans aS
  have bV := (block_kept5 (w := S) (g := g9) (o := k * 5) (b := w.heap.size + 2) (by omega) ez).trans bS
  have KV := Lib.hid (below_set5 KS.out (show w.heap.size ≤ g9 by omega) (k * 5) ez)
  have RFV := Lib.hid (RF9.out.kept (w' := five5 S g9 (k * 5) ez) (row := some g9) ⟨rfl, rfl, rfl, by simp [five5, World.setCell], fun b _ hne => block_kept5 (fun e => hne (by rw [e])) ez⟩ (fun g hg e => by have := HRF.out g hg; injection e; omega))
  have hV2 := hV
  unfold five5 at hV2
  rw [← hV] at RV aV bV KV RFV
  rw [← hV2]
  clear hV hV2 aS bS dS R9 KS s0 s1 s2 s3 s4 ff0 ff1 ff2 ff3 ff4 cA cD lA lB lD RF9
  have cA := cell_of_block aV
  have cB := cell_of_block bV
  have fB := unfrozen_of_block bV
  have lA := lt_of_block aV
  have lB := lt_of_block bV
  have KF := Lib.hid (below_set3 KV.out (show w.heap.size ≤ w.heap.size + 2 by omega) (.slice (some ⟨g9, 0, none⟩) n0 d9) (.slice (some ⟨f, 0, none⟩) 16 d1) (.slice a2 n2 c2))
  have RVF := Lib.hid (((RV.out.setType bV (by decide) 0 (.slice (some ⟨g9, 0, none⟩) n0 d9)).setType (block_setCell bV _) (by decide) 1 (.slice (some ⟨f, 0, none⟩) 16 d1)).setType (block_setCell (block_setCell bV _) _) (by decide) 2 (.slice a2 n2 c2))
  have RFF := Lib.hid (((RFV.out.setType bV (by decide) 0 (.slice (some ⟨g9, 0, none⟩) n0 d9)).setType (block_setCell bV _) (by decide) 1 (.slice (some ⟨f, 0, none⟩) 16 d1)).setType (block_setCell (block_setCell bV _) _) (by decide) 2 (.slice a2 n2 c2))
  go_wp2_with fail
  refine bodyPost_ret (v := .tuple #[.agg #[.slice (some ⟨g9, 0, none⟩) n0 d9, .slice (some ⟨f, 0, none⟩) 16 d1, .slice a2 n2 c2], .int .i64 0]) (by simp [results, Try.results124, go_sem, cB]) rfl ?_
  rw [HGK.out, ← HEZ.out]
  have hrff := RFF.out
  rw [← HAD.out]
  exact ⟨_, rfl, (O.out.newEF KF.out RVF.out hrff (by omega) (by omega) hB (fun g e1 e2 => by have := HRF.out g e2; rw [hr9] at e1; injection e1; omega)).gmV (by simp only [List.length_set]; exact HN0.out) (by simp only [List.length_set]; exact HN1.out) HN2.out, KF.out⟩
end Go.Proofs.Ytofedboeggdkaaa

/-! The reference's l2Act, at hits and gifts; condition: small sizes. -/
namespace Go.Proofs.Ytofedboeggdkaaa
open Go.RowKit Go.Joins

set_option maxRecDepth 100000 in
set_option maxHeartbeats 8000000 in
theorem l2Act_hit {B : Nat} {X : Nat → Prop} (es : List Rq) (fl la : List Int) (k n0 n2 : Nat) (a0 a1 a2 : Option Addr) (c0 c1 c2 : Nat) (c n x y : Int) (w : World) (h : OwnX X w B a0 c0 a1 c1 a2 c2 ⟨es, fl, la⟩) (hn0 : es.length = n0) (hn1 : fl.length = 16) (hn2 : la.length = n2) (hk : k < n0) (h4 : n0 ≤ 4) (hB : B ≤ w.heap.size) (hp : Places es) (hf : ∀ n ∈ fl, 0 ≤ n ∧ n ≤ 20)
    (hx : -1 ≤ x ∧ x ≤ 4) (hy : -1 ≤ y ∧ y ≤ 9) :
    Calls Try.prog 124 #[.agg #[.slice a0 n0 c0, .slice a1 16 c1, .slice a2 n2 c2], .int .i64 k, .agg #[.int .i64 c, .int .i64 n, .int .i64 4, .int .i64 x, .int .i64 y]] w (RetX X B (hitR ⟨es, fl, la⟩ k (figAt es x)).1 (hitR ⟨es, fl, la⟩ k (figAt es x)).2 w) := by
  have O := Lib.hid h
  have HN0 := Lib.hid hn0
  have HN1 := Lib.hid hn1
  have HN2 := Lib.hid hn2
  have HP := Lib.hid hp
  have HF := Lib.hid hf
  have hle0 : n0 ≤ c0 := by have := h.e.len; simp only at this; omega
  have hc0m := h.e.max
  unfold maxLen at hc0m
  have hle1 : 16 ≤ c1 := by have := h.f.len; simp only at this; omega
  have hkz : k < es.length := by omega
  obtain ⟨g0, hg0, hgB, hgl, e0, e1, e2, e3, e4, -, hr0⟩ := h.e.entAt (i := k) hkz
  simp only at e0 e1 e2 e3 e4
  subst hg0
  have hPk := hp _ (List.getElem_mem hkz)
  have hGK := entN_get hkz
  clear h hn0 hn1 hn2 hp hf hr0
  generalize hzk : es[k] = z at *
  have HGK := Lib.hid hGK
  have HZK := Lib.hid hzk
  clear hzk hGK
  go_enter Try.func124, Try.ntmps124
  go_upto_region 1 with fail
  obtain ⟨W, hW, sW, aW, qW, bW, kW⟩ := blocks3 w (.cells #[.slice (some ⟨g0, 0, none⟩) n0 c0, .slice a1 16 c1, .slice a2 n2 c2] 46) (.cells #[.int .i64 c, .int .i64 n, .int .i64 4, .int .i64 x, .int .i64 y] 34) (.cells #[.slice none 0 0, .slice none 0 0, .slice none 0 0] 46)
  rw [← hW]
  clear hW
  have f0 := (kW.cell (p := ⟨g0, _, none⟩) hgl).trans e0
  have f1 := (kW.cell (p := ⟨g0, _, none⟩) hgl).trans e1
  have f2 := (kW.cell (p := ⟨g0, _, none⟩) hgl).trans e2
  have f3 := (kW.cell (p := ⟨g0, _, none⟩) hgl).trans e3
  have f4 := (kW.cell (p := ⟨g0, _, none⟩) hgl).trans e4
  have cA := cell_of_block aW
  have hk0 : (0 : Int) ≤ (k : Int) := by omega
  have hk1 : (k : Int) < (n0 : Int) := by omega
  go_upto_region 2 with fail
  obtain ⟨X, hX, sX, dX, kX⟩ := blocks1 W (.cells #[.int .i64 z.c, .int .i64 z.n, .int .i64 z.o, .int .i64 z.x, .int .i64 z.y] 92)
  rw [← hX]
  clear hX
  rw [sW] at dX
  replace aW := carryN kX aW
  replace bW := carryN kX bW
  replace qW := carryN kX qW
  have KX := Lib.hid (below_next kW kX)
  have lX : w.heap.size + 3 < X.heap.size := by omega
  clear kW kX sX sW f0 f1 f2 f3 f4 e0 e1 e2 e3 e4 cA
  have cA := cell_of_block aW
  have cQ := cell_of_block qW
  have cD := cell_of_block dX
  have fD := unfrozen_of_block dX
  have cB := cell_of_block bW
  have fB := unfrozen_of_block bW
  have lA := lt_of_block aW
  have lB := lt_of_block bW
  have lQ := lt_of_block qW
  have lD := lt_of_block dX
  have ne_ : ¬ (w.heap.size = w.heap.size + 1) := by omega
  have ne_ : ¬ (w.heap.size + 1 = w.heap.size) := by omega
  have ne_ : ¬ (w.heap.size = w.heap.size + 2) := by omega
  have ne_ : ¬ (w.heap.size + 2 = w.heap.size) := by omega
  have ne_ : ¬ (w.heap.size = w.heap.size + 3) := by omega
  have ne_ : ¬ (w.heap.size + 3 = w.heap.size) := by omega
  have ne_ : ¬ (w.heap.size + 1 = w.heap.size + 3) := by omega
  have ne_ : ¬ (w.heap.size + 3 = w.heap.size + 1) := by omega
  have ne_ : ¬ (w.heap.size + 2 = w.heap.size + 3) := by omega
  have ne_ : ¬ (w.heap.size + 3 = w.heap.size + 2) := by omega
  go_wp2_with fail
  have hcA := fun i => (show X.drew.cell? ⟨w.heap.size, i, none⟩ = _ from cA i)
  refine wp_region_held_drew (S := fun w' => ((∀ b o, b < w.heap.size + 2 → (w').cell? ⟨b, o, none⟩ = (X).cell? ⟨b, o, none⟩) ∧ Below (w.heap.size + 2) (X) (w'))) (by kernel_rfl) (KeptB.drew (KeptB.refl _ _)) (fun hHeld => ?_)
  refine wpAnyH_take (i := 0) (oi := _) (v := ?_) (by (simp only [List.getElem?_toArray]; rfl)) (by kernel_rfl) (by kernel_rfl) (by kernel_rfl) (by exact fun _ _ _ h => h) (Or.inl ⟨by rfl, ?_⟩) (by assumption) ?_
  rotate_left
  · intro wS hSw
    go_simp
    all_goals first | with_reducible rfl | rw [if_neg (by omega)]
  simp only [Act.put, List.setIfInBounds_toArray, List.set]
  refine wpAnyH_take (i := 1) (oi := _) (v := ?_) (by (simp only [List.getElem?_toArray]; rfl)) (by kernel_rfl) (by kernel_rfl) (by kernel_rfl) (by exact fun _ _ _ h => h) (Or.inl ⟨by rfl, ?_⟩) (by assumption) ?_
  rotate_left
  · intro wS hSw
    go_simp
    all_goals first | with_reducible rfl | rw [if_neg (by omega)]
  simp only [Act.put, List.setIfInBounds_toArray, List.set]
  refine wpAnyH_take (i := 2) (oi := _) (v := ?_) (by (simp only [List.getElem?_toArray]; rfl)) (by kernel_rfl) (by kernel_rfl) (by kernel_rfl) (by exact fun _ _ _ h => h) (Or.inl ⟨by rfl, ?_⟩) (by assumption) ?_
  rotate_left
  · intro wS hSw
    go_simp
    all_goals first | with_reducible rfl | rw [if_neg (by omega)]
  simp only [Act.put, List.setIfInBounds_toArray, List.set]
  refine wpAnyH_take (i := 3) (oi := _) (v := ?_) (by (simp only [List.getElem?_toArray]; rfl)) (by kernel_rfl) (by kernel_rfl) (by kernel_rfl) (by exact fun _ _ _ h => h) (Or.inl ⟨by rfl, ?_⟩) (by assumption) ?_
  rotate_left
  · intro wS hSw
    go_simp
    all_goals first | with_reducible rfl | rw [if_neg (by omega)]
  simp only [Act.put, List.setIfInBounds_toArray, List.set]
  refine wpAnyH_take (i := 4) (oi := _) (v := ?_) (by (simp only [List.getElem?_toArray]; rfl)) (by kernel_rfl) (by kernel_rfl) (by kernel_rfl) (by exact fun _ _ _ h => h) (Or.inl ⟨by rfl, ?_⟩) (by assumption) ?_
  rotate_left
  · intro wS hSw
    go_simp
    all_goals first | with_reducible rfl | rw [if_neg (by omega)]
  simp only [Act.put, List.setIfInBounds_toArray, List.set]
  have k0 := Lib.hid (KeptB.drew (KeptB.refl X.heap.size X))
  have HA := Lib.hid aW
  have HB2 := Lib.hid bW
  clear hcA hHeld cA cQ cD fD cB fB aW bW dX qW
  refine wpAnyH_ready (rs := [5]) (by kernel_rfl) (by simp) ?_
  refine AllReadyH.cons (o := _) (by (simp only [List.getElem?_toArray]; rfl)) (fun K hK => ?_) AllReadyH.nil
  go_simp
  refine (l2At_c es x (some ⟨g0, 0, none⟩) a1 a2 n0 16 n2 c0 c1 c2 _ (((O.out.below KX.out).e.slG five_len HN0.out).below k0.out.2)).mono ?_
  rintro e w1 ⟨rfl, k1⟩
  have t1 := Lib.hid (KeptB.next (Nat.le_refl _) k0.out k1)
  clear k1
  rw [figI_opt]
  refine hK.out _ _ (KeptB.weak t1.out (by omega)) (fun hHeld => ?_)
  clear hK K
  try simp only [Act.put, List.setIfInBounds_toArray, List.set]
  clear hHeld
  refine wpAnyH_ready (rs := [6]) (by kernel_rfl) (by simp) ?_
  refine AllReadyH.cons (o := _) (by (simp only [List.getElem?_toArray]; rfl)) (fun K hK => ?_) AllReadyH.nil
  go_simp
  refine (l2Hit_c (B := B) es fl la k n0 n2 (figAt es x) (some ⟨g0, 0, none⟩) a1 a2 c0 c1 c2 _ ((O.out.below KX.out).below t1.out.2) HN0.out HN1.out HN2.out hk h4 (Nat.le_trans hB (Nat.le_trans KX.out.size t1.out.2.size)) HP.out HF.out (fun n hn => by obtain ⟨hl, -⟩ := figAt_some hn; rw [HN0.out] at hl; exact hl)).mono ?_
  rintro e w2 ⟨v, rfl, ov, k2⟩
  obtain ⟨b0, e0, b1, e1, b2, e2, hv, o2⟩ := ov.rows
  obtain ⟨m0, hm0⟩ : ∃ m, m = (hitR ⟨es, fl, la⟩ k (figAt es x)).1.es.length := ⟨_, rfl⟩
  obtain ⟨m1, hm1⟩ : ∃ m, m = (hitR ⟨es, fl, la⟩ k (figAt es x)).1.fl.length := ⟨_, rfl⟩
  obtain ⟨m2, hm2⟩ : ∃ m, m = (hitR ⟨es, fl, la⟩ k (figAt es x)).1.la.length := ⟨_, rfl⟩
  obtain ⟨cd, hcd⟩ : ∃ cd, cd = (hitR ⟨es, fl, la⟩ k (figAt es x)).2 := ⟨_, rfl⟩
  have O2 := Lib.hid o2
  have HM0 := Lib.hid hm0
  have HM1 := Lib.hid hm1
  have HM2 := Lib.hid hm2
  have HCD := Lib.hid hcd
  rw [← hm0, ← hm1, ← hm2] at hv
  rw [← hcd, hv]
  clear hv ov o2 hm0 hm1 hm2 hcd
  have t2 := Lib.hid (KeptB.next (Nat.le_refl _) t1.out k2)
  have bW := carryN t2.out.2 HB2.out
  have K2 := Lib.hid (below_next KX.out t2.out.2)
  clear k2
  refine hK.out _ _ (KeptB.weak t2.out (by omega)) (fun hHeld => ?_)
  clear hK K
  try simp only [Act.put, List.setIfInBounds_toArray, List.set]
  refine wpAnyH_take (i := 7) (oi := _) (v := ?_) (by (simp only [List.getElem?_toArray]; rfl)) (by kernel_rfl) (by kernel_rfl) (by kernel_rfl) (by exact fun _ _ _ h => h) (Or.inl ⟨by rfl, ?_⟩) (by assumption) ?_
  rotate_left
  · intro wS hSw
    go_simp
    all_goals first | with_reducible rfl | rw [if_neg (by omega)]
  simp only [Act.put, List.setIfInBounds_toArray, List.set]
  refine wpAnyH_take (i := 8) (oi := _) (v := ?_) (by (simp only [List.getElem?_toArray]; rfl)) (by kernel_rfl) (by kernel_rfl) (by kernel_rfl) (by exact fun _ _ _ h => h) (Or.inl ⟨by rfl, ?_⟩) (by assumption) ?_
  rotate_left
  · intro wS hSw
    go_simp
    all_goals first | with_reducible rfl | rw [if_neg (by omega)]
  simp only [Act.put, List.setIfInBounds_toArray, List.set]
  clear hHeld
  have cB := cell_of_block bW
  have fB := unfrozen_of_block bW
  have lB := lt_of_block bW
  have lS := lX
  refine wpAnyH_ready (rs := [9]) (by kernel_rfl) (by simp) ?_
  refine AllReadyH.cons (o := _) (by (simp only [List.getElem?_toArray]; rfl)) (fun K hK => ?_) AllReadyH.nil
  go_simp
  refine hK.out _ _ (KeptB.set (by simp) _ (KeptB.set (by simp) _ (KeptB.set (by simp) _ (KeptB.weak t2.out (show w.heap.size + 2 ≤ X.heap.size by omega))))) (fun hHeld => ?_)
  clear hK K
  try simp only [Act.put, List.setIfInBounds_toArray, List.set]
  refine wpAnyH_take (i := 10) (oi := _) (v := ?_) (by (simp only [List.getElem?_toArray]; rfl)) (by kernel_rfl) (by kernel_rfl) (by kernel_rfl) (by exact fun _ _ _ h => h) (Or.inl ⟨by rfl, ?_⟩) (by assumption) ?_
  rotate_left
  · intro wS hSw
    go_simp
    all_goals first | with_reducible rfl | rw [if_neg (by omega)]
  simp only [Act.put, List.setIfInBounds_toArray, List.set]
  refine wpAnyH_done (by kernel_rfl) ?_ _
  have OF := Lib.hid (O2.out.set3 bW (.slice b0 m0 e0) (.slice b1 m1 e1) (.slice b2 m2 e2))
  have KF := Lib.hid (below_set3 K2.out (show w.heap.size ≤ w.heap.size + 2 by omega) (.slice b0 m0 e0) (.slice b1 m1 e1) (.slice b2 m2 e2))
  go_wp2_with fail
  refine bodyPost_ret (v := .tuple #[.agg #[.slice b0 m0 e0, .slice b1 m1 e1, .slice b2 m2 e2], .int .i64 cd]) (by simp [results, Try.results124, go_sem, cB]) rfl ?_
  rw [← HCD.out]
  exact ⟨_, rfl, OF.out.gmV HM0.out.symm HM1.out.symm HM2.out.symm, KF.out⟩
end Go.Proofs.Ytofedboeggdkaaa

/-! The reference's l2Act, at gifts; condition: small sizes. -/
namespace Go.Proofs.Ytofedboeggdkaaa
open Go.RowKit Go.Joins

set_option maxRecDepth 100000 in
set_option maxHeartbeats 8000000 in
theorem l2Act_give_far {B : Nat} {X : Nat → Prop} (es : List Rq) (fl la : List Int) (k n0 n2 : Nat) (a0 a1 a2 : Option Addr) (c0 c1 c2 : Nat) (c n o x y : Int) (w : World) (h : OwnX X w B a0 c0 a1 c1 a2 c2 ⟨es, fl, la⟩) (hn0 : es.length = n0) (hn1 : fl.length = 16) (hn2 : la.length = n2) (hk : k < n0) (h4 : n0 ≤ 4) (hB : B ≤ w.heap.size) (hp : Places es) (hf : ∀ n ∈ fl, 0 ≤ n ∧ n ≤ 20)
    (hx : -1 ≤ x ∧ x ≤ 4) (hy : -1 ≤ y ∧ y ≤ 9) (ho2 : o ≠ 2) (ho3 : o ≠ 3) (ho4 : o ≠ 4) (hfar : ∀ m, figAt es x = some m → m = k ∨ nearB (entN es k) (entN es m) = false) :
    Calls Try.prog 124 #[.agg #[.slice a0 n0 c0, .slice a1 16 c1, .slice a2 n2 c2], .int .i64 k, .agg #[.int .i64 c, .int .i64 n, .int .i64 o, .int .i64 x, .int .i64 y]] w (RetX X B ⟨es, fl, la⟩ 8 w) := by
  have O := Lib.hid h
  have HN0 := Lib.hid hn0
  have HN1 := Lib.hid hn1
  have HN2 := Lib.hid hn2
  have HP := Lib.hid hp
  have HF := Lib.hid hf
  have hle0 : n0 ≤ c0 := by have := h.e.len; simp only at this; omega
  have hc0m := h.e.max
  unfold maxLen at hc0m
  have hle1 : 16 ≤ c1 := by have := h.f.len; simp only at this; omega
  have hkz : k < es.length := by omega
  obtain ⟨g0, hg0, hgB, hgl, e0, e1, e2, e3, e4, -, hr0⟩ := h.e.entAt (i := k) hkz
  simp only at e0 e1 e2 e3 e4
  subst hg0
  have hPk := hp _ (List.getElem_mem hkz)
  have hGK := entN_get hkz
  clear h hn0 hn1 hn2 hp hf hr0
  rw [hGK] at hfar
  generalize hzk : es[k] = z at *
  have HGK := Lib.hid hGK
  have HZK := Lib.hid hzk
  clear hzk hGK
  go_enter Try.func124, Try.ntmps124
  go_upto_region 1 with fail
  obtain ⟨W, hW, sW, aW, qW, bW, kW⟩ := blocks3 w (.cells #[.slice (some ⟨g0, 0, none⟩) n0 c0, .slice a1 16 c1, .slice a2 n2 c2] 46) (.cells #[.int .i64 c, .int .i64 n, .int .i64 o, .int .i64 x, .int .i64 y] 34) (.cells #[.slice none 0 0, .slice none 0 0, .slice none 0 0] 46)
  rw [← hW]
  clear hW
  have f0 := (kW.cell (p := ⟨g0, _, none⟩) hgl).trans e0
  have f1 := (kW.cell (p := ⟨g0, _, none⟩) hgl).trans e1
  have f2 := (kW.cell (p := ⟨g0, _, none⟩) hgl).trans e2
  have f3 := (kW.cell (p := ⟨g0, _, none⟩) hgl).trans e3
  have f4 := (kW.cell (p := ⟨g0, _, none⟩) hgl).trans e4
  have cA := cell_of_block aW
  have hk0 : (0 : Int) ≤ (k : Int) := by omega
  have hk1 : (k : Int) < (n0 : Int) := by omega
  go_upto_region 2 with fail
  obtain ⟨X, hX, sX, dX, kX⟩ := blocks1 W (.cells #[.int .i64 z.c, .int .i64 z.n, .int .i64 z.o, .int .i64 z.x, .int .i64 z.y] 92)
  rw [← hX]
  clear hX
  rw [sW] at dX
  replace aW := carryN kX aW
  replace bW := carryN kX bW
  replace qW := carryN kX qW
  have KX := Lib.hid (below_next kW kX)
  have lX : w.heap.size + 3 < X.heap.size := by omega
  clear kW kX sX sW f0 f1 f2 f3 f4 e0 e1 e2 e3 e4 cA
  have cA := cell_of_block aW
  have cQ := cell_of_block qW
  have cD := cell_of_block dX
  have fD := unfrozen_of_block dX
  have cB := cell_of_block bW
  have fB := unfrozen_of_block bW
  have lA := lt_of_block aW
  have lB := lt_of_block bW
  have lQ := lt_of_block qW
  have lD := lt_of_block dX
  have ne_ : ¬ (w.heap.size = w.heap.size + 1) := by omega
  have ne_ : ¬ (w.heap.size + 1 = w.heap.size) := by omega
  have ne_ : ¬ (w.heap.size = w.heap.size + 2) := by omega
  have ne_ : ¬ (w.heap.size + 2 = w.heap.size) := by omega
  have ne_ : ¬ (w.heap.size = w.heap.size + 3) := by omega
  have ne_ : ¬ (w.heap.size + 3 = w.heap.size) := by omega
  have ne_ : ¬ (w.heap.size + 1 = w.heap.size + 3) := by omega
  have ne_ : ¬ (w.heap.size + 3 = w.heap.size + 1) := by omega
  have ne_ : ¬ (w.heap.size + 2 = w.heap.size + 3) := by omega
  have ne_ : ¬ (w.heap.size + 3 = w.heap.size + 2) := by omega
  have hob2 : (o == 2) = false := by simpa using ho2
  have hob3 : (o == 3) = false := by simpa using ho3
  have hob4 : (o == 4) = false := by simpa using ho4
  have CL := Lib.hid (fun (V : World) (kk : Below X.heap.size X V) => l2At_c es x (some ⟨g0, 0, none⟩) a1 a2 n0 16 n2 c0 c1 c2 V (((O.out.below KX.out).e.slG five_len HN0.out).below kk))
  go_wp2_with fail
  refine (CL.out X (Below.refl _ _)).mono ?_
  rintro e w1 ⟨rfl, k1⟩
  rw [figI_opt]
  replace aW := carryN k1 aW
  replace bW := carryN k1 bW
  replace qW := carryN k1 qW
  replace dX := carryN k1 dX
  replace KX := Lib.hid (below_next KX.out k1)
  have lX1 : w.heap.size + 3 < w1.heap.size := lt_of_block dX
  clear CL lX k1 cA cQ cD fD cB fB lA lB lQ lD
  have hfar2 : (optI (figAt es x) < 0 ∨ optI (figAt es x) = (k : Int)) ∨ ∃ m, figAt es x = some m ∧ m ≠ k ∧ nearB z (entN es m) = false := by
    cases hfa : figAt es x with
    | none => exact .inl (.inl (by decide))
    | some m =>
      rcases hfar m hfa with h | h
      · exact .inl (.inr (by rw [h]; rfl))
      · by_cases hmk : m = k
        · exact .inl (.inr (by rw [hmk]; rfl))
        · exact .inr ⟨m, rfl, hmk, h⟩
  clear hfar
  rcases hfar2 with hm | ⟨m, hfa, hmk, hnr⟩
  · obtain ⟨m, hmm⟩ : ∃ m, m = optI (figAt es x) := ⟨_, rfl⟩
    rw [← hmm] at hm ⊢
    clear hmm
    rcases hm with hm | hm
    · have hmd : decide (m < 0) = true := by simp; omega
      go_wp2_with fail
      refine wp_region_quiet_below (by kernel_rfl) (by kernel_rfl) ?_
      repeat (go_big_quiet_step (fail))
      refine wpQuiet_nil ?_
      intro _ hw'
      obtain ⟨⟨dq, osq⟩, hw''⟩ := hw'
      subst hw''
      have hkb := below_regrown w1 dq osq
      replace aW := carryN hkb aW
      replace bW := carryN hkb bW
      replace qW := carryN hkb qW
      replace dX := carryN hkb dX
      replace KX := Lib.hid (below_next KX.out hkb)
      clear hkb
      generalize Sort.grow (redrawn w1 dq) osq = X2 at *
      have cA := cell_of_block aW
      have cQ := cell_of_block qW
      have cD := cell_of_block dX
      have fD := unfrozen_of_block dX
      have cB := cell_of_block bW
      have fB := unfrozen_of_block bW
      have lA := lt_of_block aW
      have lB := lt_of_block bW
      have lQ := lt_of_block qW
      have lD := lt_of_block dX
      go_wp2_with fail
      refine bodyPost_ret (v := .tuple #[.agg #[.slice (some ⟨g0, 0, none⟩) n0 c0, .slice a1 16 c1, .slice a2 n2 c2], .int .i64 8]) (by simp [results, Try.results124, go_sem, cB]) rfl ?_
      have KX' := KX.out
      exact ⟨_, rfl, (O.out.below (by repeat' (first | with_reducible exact Below.refl _ _ | with_reducible assumption | with_reducible refine Below.alloc ?_ ?_ _ | with_reducible refine Below.drew ?_ | with_reducible refine Below.setCell ?_ ?_ _ | omega | (simp; omega) | (simp; done)))).gmV HN0.out HN1.out HN2.out, (by repeat' (first | with_reducible exact Below.refl _ _ | with_reducible assumption | with_reducible refine Below.alloc ?_ ?_ _ | with_reducible refine Below.drew ?_ | with_reducible refine Below.setCell ?_ ?_ _ | omega | (simp; omega) | (simp; done)))⟩
    · have hmd : decide (m < 0) = false := by simp; omega
      have hm0 : ¬ m < 0 := by omega
      subst hm
      go_wp2_with fail
      refine wp_region_quiet_below (by kernel_rfl) (by kernel_rfl) ?_
      repeat (go_big_quiet_step (fail))
      refine wpQuiet_nil ?_
      intro _ hw'
      obtain ⟨⟨dq, osq⟩, hw''⟩ := hw'
      subst hw''
      have hkb := below_regrown w1 dq osq
      replace aW := carryN hkb aW
      replace bW := carryN hkb bW
      replace qW := carryN hkb qW
      replace dX := carryN hkb dX
      replace KX := Lib.hid (below_next KX.out hkb)
      clear hkb
      generalize Sort.grow (redrawn w1 dq) osq = X2 at *
      have cA := cell_of_block aW
      have cQ := cell_of_block qW
      have cD := cell_of_block dX
      have fD := unfrozen_of_block dX
      have cB := cell_of_block bW
      have fB := unfrozen_of_block bW
      have lA := lt_of_block aW
      have lB := lt_of_block bW
      have lQ := lt_of_block qW
      have lD := lt_of_block dX
      go_wp2_with fail
      refine bodyPost_ret (v := .tuple #[.agg #[.slice (some ⟨g0, 0, none⟩) n0 c0, .slice a1 16 c1, .slice a2 n2 c2], .int .i64 8]) (by simp [results, Try.results124, go_sem, cB]) rfl ?_
      have KX' := KX.out
      exact ⟨_, rfl, (O.out.below (by repeat' (first | with_reducible exact Below.refl _ _ | with_reducible assumption | with_reducible refine Below.alloc ?_ ?_ _ | with_reducible refine Below.drew ?_ | with_reducible refine Below.setCell ?_ ?_ _ | omega | (simp; omega) | (simp; done)))).gmV HN0.out HN1.out HN2.out, (by repeat' (first | with_reducible exact Below.refl _ _ | with_reducible assumption | with_reducible refine Below.alloc ?_ ?_ _ | with_reducible refine Below.drew ?_ | with_reducible refine Below.setCell ?_ ?_ _ | omega | (simp; omega) | (simp; done)))⟩
  · obtain ⟨hml, -⟩ := figAt_some hfa
    rw [hfa]
    have hm0 : optI (some m) = (m : Int) := rfl
    rw [hm0]
    clear hm0 hfa
    have hmn0 : m < n0 := by rw [← HN0.out]; exact hml
    obtain ⟨g1, hg1, -, hg1l, d0, d1, d2, d3, d4, -, -⟩ := (O.out.below KX.out).e.entAt (i := m) hml
    injection hg1 with hg1
    injection hg1 with hg1
    subst hg1
    simp only at d0 d1 d2 d3 d4
    have hPm := HP.out _ (List.getElem_mem hml)
    have HGN := Lib.hid (entN_get hml)
    rw [entN_get hml] at hnr
    generalize hzm : es[m] = zm at *
    have HZM := Lib.hid hzm
    clear hzm
    have y0 := cell_regrown d0
    have y1 := cell_regrown d1
    have y2 := cell_regrown d2
    have y3 := cell_regrown d3
    have y4 := cell_regrown d4
    have ga := cellRe aW
    have gd := cellRe dX
    have cN := quietC (w := w1) (fun V _ => l2Near_c z zm V ⟨hPk.1.1, hPk.1.2, hPk.2.1.1, hPk.2.1.2⟩ ⟨hPm.1.1, hPm.1.2, hPm.2.1.1, hPm.2.1.2⟩)
    rw [hnr] at cN
    have hmd : decide ((m : Int) < 0) = false := by simp
    have hmn : ¬ (m : Int) < 0 := by omega
    have hmkb : ((m : Int) == (k : Int)) = false := by simp; omega
    have hmk2 : ¬ (m : Int) = (k : Int) := by omega
    have hm0' : (0 : Int) ≤ (m : Int) := by omega
    have hm1' : (m : Int) < (n0 : Int) := by omega
    clear d0 d1 d2 d3 d4 hnr
    go_wp2_with fail
    refine wp_region_quiet_below (by kernel_rfl) (by kernel_rfl) ?_
    repeat (go_big_quiet_step (first | with_reducible exact cN _ _))
    refine wpQuiet_nil ?_
    intro _ hw'
    obtain ⟨⟨dq, osq⟩, hw''⟩ := hw'
    subst hw''
    have hkb := below_regrown w1 dq osq
    replace aW := carryN hkb aW
    replace bW := carryN hkb bW
    replace qW := carryN hkb qW
    replace dX := carryN hkb dX
    replace KX := Lib.hid (below_next KX.out hkb)
    clear hkb
    generalize Sort.grow (redrawn w1 dq) osq = X2 at *
    clear y0 y1 y2 y3 y4 ga gd cN
    have cA := cell_of_block aW
    have cQ := cell_of_block qW
    have cD := cell_of_block dX
    have fD := unfrozen_of_block dX
    have cB := cell_of_block bW
    have fB := unfrozen_of_block bW
    have lA := lt_of_block aW
    have lB := lt_of_block bW
    have lQ := lt_of_block qW
    have lD := lt_of_block dX
    go_wp2_with fail
    refine bodyPost_ret (v := .tuple #[.agg #[.slice (some ⟨g0, 0, none⟩) n0 c0, .slice a1 16 c1, .slice a2 n2 c2], .int .i64 8]) (by simp [results, Try.results124, go_sem, cB]) rfl ?_
    have KX' := KX.out
    exact ⟨_, rfl, (O.out.below (by repeat' (first | with_reducible exact Below.refl _ _ | with_reducible assumption | with_reducible refine Below.alloc ?_ ?_ _ | with_reducible refine Below.drew ?_ | with_reducible refine Below.setCell ?_ ?_ _ | omega | (simp; omega) | (simp; done)))).gmV HN0.out HN1.out HN2.out, (by repeat' (first | with_reducible exact Below.refl _ _ | with_reducible assumption | with_reducible refine Below.alloc ?_ ?_ _ | with_reducible refine Below.drew ?_ | with_reducible refine Below.setCell ?_ ?_ _ | omega | (simp; omega) | (simp; done)))⟩
set_option maxRecDepth 100000 in
set_option maxHeartbeats 8000000 in
theorem l2Act_give_poor {B : Nat} {X : Nat → Prop} (es : List Rq) (fl la : List Int) (k n0 n2 : Nat) (a0 a1 a2 : Option Addr) (c0 c1 c2 : Nat) (c n o x y : Int) (w : World) (h : OwnX X w B a0 c0 a1 c1 a2 c2 ⟨es, fl, la⟩) (hn0 : es.length = n0) (hn1 : fl.length = 16) (hn2 : la.length = n2) (hk : k < n0) (h4 : n0 ≤ 4) (hB : B ≤ w.heap.size) (hp : Places es) (hf : ∀ n ∈ fl, 0 ≤ n ∧ n ≤ 20)
    (hx : -1 ≤ x ∧ x ≤ 4) (hy : -1 ≤ y ∧ y ≤ 9) (ho2 : o ≠ 2) (ho3 : o ≠ 3) (ho4 : o ≠ 4) (m : Nat) (hfa : figAt es x = some m) (hmk : m ≠ k) (hnr : nearB (entN es k) (entN es m) = true) (hpo : (entN es k).y < y) :
    Calls Try.prog 124 #[.agg #[.slice a0 n0 c0, .slice a1 16 c1, .slice a2 n2 c2], .int .i64 k, .agg #[.int .i64 c, .int .i64 n, .int .i64 o, .int .i64 x, .int .i64 y]] w (RetX X B ⟨es, fl, la⟩ 7 w) := by
  have O := Lib.hid h
  have HN0 := Lib.hid hn0
  have HN1 := Lib.hid hn1
  have HN2 := Lib.hid hn2
  have HP := Lib.hid hp
  have HF := Lib.hid hf
  have hle0 : n0 ≤ c0 := by have := h.e.len; simp only at this; omega
  have hc0m := h.e.max
  unfold maxLen at hc0m
  have hle1 : 16 ≤ c1 := by have := h.f.len; simp only at this; omega
  have hkz : k < es.length := by omega
  obtain ⟨g0, hg0, hgB, hgl, e0, e1, e2, e3, e4, -, hr0⟩ := h.e.entAt (i := k) hkz
  simp only at e0 e1 e2 e3 e4
  subst hg0
  have hPk := hp _ (List.getElem_mem hkz)
  have hGK := entN_get hkz
  clear h hn0 hn1 hn2 hp hf hr0
  rw [hGK] at hnr hpo
  generalize hzk : es[k] = z at *
  have HGK := Lib.hid hGK
  have HZK := Lib.hid hzk
  clear hzk hGK
  go_enter Try.func124, Try.ntmps124
  go_upto_region 1 with fail
  obtain ⟨W, hW, sW, aW, qW, bW, kW⟩ := blocks3 w (.cells #[.slice (some ⟨g0, 0, none⟩) n0 c0, .slice a1 16 c1, .slice a2 n2 c2] 46) (.cells #[.int .i64 c, .int .i64 n, .int .i64 o, .int .i64 x, .int .i64 y] 34) (.cells #[.slice none 0 0, .slice none 0 0, .slice none 0 0] 46)
  rw [← hW]
  clear hW
  have f0 := (kW.cell (p := ⟨g0, _, none⟩) hgl).trans e0
  have f1 := (kW.cell (p := ⟨g0, _, none⟩) hgl).trans e1
  have f2 := (kW.cell (p := ⟨g0, _, none⟩) hgl).trans e2
  have f3 := (kW.cell (p := ⟨g0, _, none⟩) hgl).trans e3
  have f4 := (kW.cell (p := ⟨g0, _, none⟩) hgl).trans e4
  have cA := cell_of_block aW
  have hk0 : (0 : Int) ≤ (k : Int) := by omega
  have hk1 : (k : Int) < (n0 : Int) := by omega
  go_upto_region 2 with fail
  obtain ⟨X, hX, sX, dX, kX⟩ := blocks1 W (.cells #[.int .i64 z.c, .int .i64 z.n, .int .i64 z.o, .int .i64 z.x, .int .i64 z.y] 92)
  rw [← hX]
  clear hX
  rw [sW] at dX
  replace aW := carryN kX aW
  replace bW := carryN kX bW
  replace qW := carryN kX qW
  have KX := Lib.hid (below_next kW kX)
  have lX : w.heap.size + 3 < X.heap.size := by omega
  clear kW kX sX sW f0 f1 f2 f3 f4 e0 e1 e2 e3 e4 cA
  have cA := cell_of_block aW
  have cQ := cell_of_block qW
  have cD := cell_of_block dX
  have fD := unfrozen_of_block dX
  have cB := cell_of_block bW
  have fB := unfrozen_of_block bW
  have lA := lt_of_block aW
  have lB := lt_of_block bW
  have lQ := lt_of_block qW
  have lD := lt_of_block dX
  have ne_ : ¬ (w.heap.size = w.heap.size + 1) := by omega
  have ne_ : ¬ (w.heap.size + 1 = w.heap.size) := by omega
  have ne_ : ¬ (w.heap.size = w.heap.size + 2) := by omega
  have ne_ : ¬ (w.heap.size + 2 = w.heap.size) := by omega
  have ne_ : ¬ (w.heap.size = w.heap.size + 3) := by omega
  have ne_ : ¬ (w.heap.size + 3 = w.heap.size) := by omega
  have ne_ : ¬ (w.heap.size + 1 = w.heap.size + 3) := by omega
  have ne_ : ¬ (w.heap.size + 3 = w.heap.size + 1) := by omega
  have ne_ : ¬ (w.heap.size + 2 = w.heap.size + 3) := by omega
  have ne_ : ¬ (w.heap.size + 3 = w.heap.size + 2) := by omega
  have hob2 : (o == 2) = false := by simpa using ho2
  have hob3 : (o == 3) = false := by simpa using ho3
  have hob4 : (o == 4) = false := by simpa using ho4
  have CL := Lib.hid (fun (V : World) (kk : Below X.heap.size X V) => l2At_c es x (some ⟨g0, 0, none⟩) a1 a2 n0 16 n2 c0 c1 c2 V (((O.out.below KX.out).e.slG five_len HN0.out).below kk))
  go_wp2_with fail
  refine (CL.out X (Below.refl _ _)).mono ?_
  rintro e w1 ⟨rfl, k1⟩
  rw [figI_opt]
  replace aW := carryN k1 aW
  replace bW := carryN k1 bW
  replace qW := carryN k1 qW
  replace dX := carryN k1 dX
  replace KX := Lib.hid (below_next KX.out k1)
  have lX1 : w.heap.size + 3 < w1.heap.size := lt_of_block dX
  clear CL lX k1 cA cQ cD fD cB fB lA lB lQ lD
  obtain ⟨hml, -⟩ := figAt_some hfa
  rw [hfa]
  have hm0 : optI (some m) = (m : Int) := rfl
  rw [hm0]
  clear hm0 hfa
  have hmn0 : m < n0 := by rw [← HN0.out]; exact hml
  obtain ⟨g1, hg1, -, hg1l, d0, d1, d2, d3, d4, -, -⟩ := (O.out.below KX.out).e.entAt (i := m) hml
  injection hg1 with hg1
  injection hg1 with hg1
  subst hg1
  simp only at d0 d1 d2 d3 d4
  have hPm := HP.out _ (List.getElem_mem hml)
  have HGN := Lib.hid (entN_get hml)
  rw [entN_get hml] at hnr
  generalize hzm : es[m] = zm at *
  have HZM := Lib.hid hzm
  clear hzm
  have y0 := cell_regrown d0
  have y1 := cell_regrown d1
  have y2 := cell_regrown d2
  have y3 := cell_regrown d3
  have y4 := cell_regrown d4
  have ga := cellRe aW
  have gd := cellRe dX
  have cN := quietC (w := w1) (fun V _ => l2Near_c z zm V ⟨hPk.1.1, hPk.1.2, hPk.2.1.1, hPk.2.1.2⟩ ⟨hPm.1.1, hPm.1.2, hPm.2.1.1, hPm.2.1.2⟩)
  rw [hnr] at cN
  have hmd : decide ((m : Int) < 0) = false := by simp
  have hmn : ¬ (m : Int) < 0 := by omega
  have hmkb : ((m : Int) == (k : Int)) = false := by simp; omega
  have hmk2 : ¬ (m : Int) = (k : Int) := by omega
  have hm0' : (0 : Int) ≤ (m : Int) := by omega
  have hm1' : (m : Int) < (n0 : Int) := by omega
  clear d0 d1 d2 d3 d4 hnr
  go_wp2_with fail
  refine wp_region_quiet_below (by kernel_rfl) (by kernel_rfl) ?_
  repeat (go_big_quiet_step (first | with_reducible exact cN _ _))
  refine wpQuiet_nil ?_
  intro _ hw'
  obtain ⟨⟨dq, osq⟩, hw''⟩ := hw'
  subst hw''
  have hkb := below_regrown w1 dq osq
  replace aW := carryN hkb aW
  replace bW := carryN hkb bW
  replace qW := carryN hkb qW
  replace dX := carryN hkb dX
  replace KX := Lib.hid (below_next KX.out hkb)
  clear hkb
  generalize Sort.grow (redrawn w1 dq) osq = X2 at *
  clear y0 y1 y2 y3 y4 ga gd cN
  have cA := cell_of_block aW
  have cQ := cell_of_block qW
  have cD := cell_of_block dX
  have fD := unfrozen_of_block dX
  have cB := cell_of_block bW
  have fB := unfrozen_of_block bW
  have lA := lt_of_block aW
  have lB := lt_of_block bW
  have lQ := lt_of_block qW
  have lD := lt_of_block dX
  go_wp2_with fail
  refine bodyPost_ret (v := .tuple #[.agg #[.slice (some ⟨g0, 0, none⟩) n0 c0, .slice a1 16 c1, .slice a2 n2 c2], .int .i64 7]) (by simp [results, Try.results124, go_sem, cB]) rfl ?_
  have KX' := KX.out
  exact ⟨_, rfl, (O.out.below (by repeat' (first | with_reducible exact Below.refl _ _ | with_reducible assumption | with_reducible refine Below.alloc ?_ ?_ _ | with_reducible refine Below.drew ?_ | with_reducible refine Below.setCell ?_ ?_ _ | omega | (simp; omega) | (simp; done)))).gmV HN0.out HN1.out HN2.out, (by repeat' (first | with_reducible exact Below.refl _ _ | with_reducible assumption | with_reducible refine Below.alloc ?_ ?_ _ | with_reducible refine Below.drew ?_ | with_reducible refine Below.setCell ?_ ?_ _ | omega | (simp; omega) | (simp; done)))⟩
set_option maxRecDepth 100000 in
set_option maxHeartbeats 8000000 in
theorem l2Act_give {B : Nat} {X : Nat → Prop} (es : List Rq) (fl la : List Int) (k n0 n2 : Nat) (a0 a1 a2 : Option Addr) (c0 c1 c2 : Nat) (c n o x y : Int) (w : World) (h : OwnX X w B a0 c0 a1 c1 a2 c2 ⟨es, fl, la⟩) (hn0 : es.length = n0) (hn1 : fl.length = 16) (hn2 : la.length = n2) (hk : k < n0) (h4 : n0 ≤ 4) (hB : B ≤ w.heap.size) (hp : Places es) (hf : ∀ n ∈ fl, 0 ≤ n ∧ n ≤ 20)
    (hx : -1 ≤ x ∧ x ≤ 4) (hy : -1 ≤ y ∧ y ≤ 9) (ho2 : o ≠ 2) (ho3 : o ≠ 3) (ho4 : o ≠ 4) (m : Nat) (hfa : figAt es x = some m) (hmk : m ≠ k) (hnr : nearB (entN es k) (entN es m) = true) (hpo : ¬ (entN es k).y < y) :
    Calls Try.prog 124 #[.agg #[.slice a0 n0 c0, .slice a1 16 c1, .slice a2 n2 c2], .int .i64 k, .agg #[.int .i64 c, .int .i64 n, .int .i64 o, .int .i64 x, .int .i64 y]] w (RetX X B ⟨(es.set m { (entN es m) with y := (entN es m).y + y }).set k { (entN es k) with y := (entN es k).y - y }, fl, la⟩ 0 w) := by
  have O := Lib.hid h
  have HN0 := Lib.hid hn0
  have HN1 := Lib.hid hn1
  have HN2 := Lib.hid hn2
  have HP := Lib.hid hp
  have HF := Lib.hid hf
  have hle0 : n0 ≤ c0 := by have := h.e.len; simp only at this; omega
  have hc0m := h.e.max
  unfold maxLen at hc0m
  have hle1 : 16 ≤ c1 := by have := h.f.len; simp only at this; omega
  have hkz : k < es.length := by omega
  obtain ⟨g0, hg0, hgB, hgl, e0, e1, e2, e3, e4, -, hr0⟩ := h.e.entAt (i := k) hkz
  simp only at e0 e1 e2 e3 e4
  subst hg0
  have hPk := hp _ (List.getElem_mem hkz)
  have hGK := entN_get hkz
  clear h hn0 hn1 hn2 hp hf hr0
  rw [hGK] at hnr hpo
  generalize hzk : es[k] = z at *
  have HGK := Lib.hid hGK
  have HZK := Lib.hid hzk
  clear hzk hGK
  go_enter Try.func124, Try.ntmps124
  go_upto_region 1 with fail
  obtain ⟨W, hW, sW, aW, qW, bW, kW⟩ := blocks3 w (.cells #[.slice (some ⟨g0, 0, none⟩) n0 c0, .slice a1 16 c1, .slice a2 n2 c2] 46) (.cells #[.int .i64 c, .int .i64 n, .int .i64 o, .int .i64 x, .int .i64 y] 34) (.cells #[.slice none 0 0, .slice none 0 0, .slice none 0 0] 46)
  rw [← hW]
  clear hW
  have f0 := (kW.cell (p := ⟨g0, _, none⟩) hgl).trans e0
  have f1 := (kW.cell (p := ⟨g0, _, none⟩) hgl).trans e1
  have f2 := (kW.cell (p := ⟨g0, _, none⟩) hgl).trans e2
  have f3 := (kW.cell (p := ⟨g0, _, none⟩) hgl).trans e3
  have f4 := (kW.cell (p := ⟨g0, _, none⟩) hgl).trans e4
  have cA := cell_of_block aW
  have hk0 : (0 : Int) ≤ (k : Int) := by omega
  have hk1 : (k : Int) < (n0 : Int) := by omega
  go_upto_region 2 with fail
  obtain ⟨X, hX, sX, dX, kX⟩ := blocks1 W (.cells #[.int .i64 z.c, .int .i64 z.n, .int .i64 z.o, .int .i64 z.x, .int .i64 z.y] 92)
  rw [← hX]
  clear hX
  rw [sW] at dX
  replace aW := carryN kX aW
  replace bW := carryN kX bW
  replace qW := carryN kX qW
  have KX := Lib.hid (below_next kW kX)
  have lX : w.heap.size + 3 < X.heap.size := by omega
  clear kW kX sX sW f0 f1 f2 f3 f4 e0 e1 e2 e3 e4 cA
  have cA := cell_of_block aW
  have cQ := cell_of_block qW
  have cD := cell_of_block dX
  have fD := unfrozen_of_block dX
  have cB := cell_of_block bW
  have fB := unfrozen_of_block bW
  have lA := lt_of_block aW
  have lB := lt_of_block bW
  have lQ := lt_of_block qW
  have lD := lt_of_block dX
  have ne_ : ¬ (w.heap.size = w.heap.size + 1) := by omega
  have ne_ : ¬ (w.heap.size + 1 = w.heap.size) := by omega
  have ne_ : ¬ (w.heap.size = w.heap.size + 2) := by omega
  have ne_ : ¬ (w.heap.size + 2 = w.heap.size) := by omega
  have ne_ : ¬ (w.heap.size = w.heap.size + 3) := by omega
  have ne_ : ¬ (w.heap.size + 3 = w.heap.size) := by omega
  have ne_ : ¬ (w.heap.size + 1 = w.heap.size + 3) := by omega
  have ne_ : ¬ (w.heap.size + 3 = w.heap.size + 1) := by omega
  have ne_ : ¬ (w.heap.size + 2 = w.heap.size + 3) := by omega
  have ne_ : ¬ (w.heap.size + 3 = w.heap.size + 2) := by omega
  have hob2 : (o == 2) = false := by simpa using ho2
  have hob3 : (o == 3) = false := by simpa using ho3
  have hob4 : (o == 4) = false := by simpa using ho4
  have CL := Lib.hid (fun (V : World) (kk : Below X.heap.size X V) => l2At_c es x (some ⟨g0, 0, none⟩) a1 a2 n0 16 n2 c0 c1 c2 V (((O.out.below KX.out).e.slG five_len HN0.out).below kk))
  go_wp2_with fail
  refine (CL.out X (Below.refl _ _)).mono ?_
  rintro e w1 ⟨rfl, k1⟩
  rw [figI_opt]
  replace aW := carryN k1 aW
  replace bW := carryN k1 bW
  replace qW := carryN k1 qW
  replace dX := carryN k1 dX
  replace KX := Lib.hid (below_next KX.out k1)
  have lX1 : w.heap.size + 3 < w1.heap.size := lt_of_block dX
  clear CL lX k1 cA cQ cD fD cB fB lA lB lQ lD
  obtain ⟨hml, -⟩ := figAt_some hfa
  rw [hfa]
  have hm0 : optI (some m) = (m : Int) := rfl
  rw [hm0]
  clear hm0 hfa
  have hmn0 : m < n0 := by rw [← HN0.out]; exact hml
  obtain ⟨g1, hg1, -, hg1l, d0, d1, d2, d3, d4, -, -⟩ := (O.out.below KX.out).e.entAt (i := m) hml
  injection hg1 with hg1
  injection hg1 with hg1
  subst hg1
  simp only at d0 d1 d2 d3 d4
  have hPm := HP.out _ (List.getElem_mem hml)
  have HGN := Lib.hid (entN_get hml)
  rw [entN_get hml] at hnr
  generalize hzm : es[m] = zm at *
  have HZM := Lib.hid hzm
  clear hzm
  have y0 := cell_regrown d0
  have y1 := cell_regrown d1
  have y2 := cell_regrown d2
  have y3 := cell_regrown d3
  have y4 := cell_regrown d4
  have ga := cellRe aW
  have gd := cellRe dX
  have cN := quietC (w := w1) (fun V _ => l2Near_c z zm V ⟨hPk.1.1, hPk.1.2, hPk.2.1.1, hPk.2.1.2⟩ ⟨hPm.1.1, hPm.1.2, hPm.2.1.1, hPm.2.1.2⟩)
  rw [hnr] at cN
  have hmd : decide ((m : Int) < 0) = false := by simp
  have hmn : ¬ (m : Int) < 0 := by omega
  have hmkb : ((m : Int) == (k : Int)) = false := by simp; omega
  have hmk2 : ¬ (m : Int) = (k : Int) := by omega
  have hm0' : (0 : Int) ≤ (m : Int) := by omega
  have hm1' : (m : Int) < (n0 : Int) := by omega
  clear d0 d1 d2 d3 d4 hnr
  go_wp2_with fail
  refine wp_region_quiet_below (by kernel_rfl) (by kernel_rfl) ?_
  repeat (go_big_quiet_step (first | with_reducible exact cN _ _))
  refine wpQuiet_nil ?_
  intro _ hw'
  obtain ⟨⟨dq, osq⟩, hw''⟩ := hw'
  subst hw''
  have hkb := below_regrown w1 dq osq
  replace aW := carryN hkb aW
  replace bW := carryN hkb bW
  replace qW := carryN hkb qW
  replace dX := carryN hkb dX
  replace KX := Lib.hid (below_next KX.out hkb)
  clear hkb
  generalize Sort.grow (redrawn w1 dq) osq = X2 at *
  clear y0 y1 y2 y3 y4 ga gd cN
  have cA := cell_of_block aW
  have cQ := cell_of_block qW
  have cD := cell_of_block dX
  have fD := unfrozen_of_block dX
  have cB := cell_of_block bW
  have fB := unfrozen_of_block bW
  have lA := lt_of_block aW
  have lB := lt_of_block bW
  have lQ := lt_of_block qW
  have lD := lt_of_block dX
  have hpo2 : ¬ z.y < y := by omega
  have hm3 : IntKind.i64.wrap (z.y - y) = z.y - y := IntWalk.i64_in _ ⟨by omega, by omega⟩
  have hm4 : IntKind.i64.wrap (zm.y + y) = zm.y + y := IntWalk.i64_in _ ⟨by omega, by omega⟩
  go_upto_region 9 with fail
  obtain ⟨U, hU⟩ : ∃ U, U = X2.setCell ⟨w.heap.size + 3, 4, none⟩ (.int .i64 (z.y - y)) := ⟨_, rfl⟩
  have dU := block_setCell (i := 4) dX (.int .i64 (z.y - y))
  have aU := (Below.heap_setCell X2 ⟨w.heap.size + 3, 4, none⟩ (.int .i64 (z.y - y)) _ (by simp)).trans aW
  have bU := (Below.heap_setCell X2 ⟨w.heap.size + 3, 4, none⟩ (.int .i64 (z.y - y)) _ (by simp)).trans bW
  have qU := (Below.heap_setCell X2 ⟨w.heap.size + 3, 4, none⟩ (.int .i64 (z.y - y)) _ (by simp)).trans qW
  have KU := Lib.hid (Below.setCell KX.out (p := ⟨w.heap.size + 3, 4, none⟩) (by simp) (.int .i64 (z.y - y)))
  rw [← hU] at dU aU bU qU KU ⊢
  simp only [List.setIfInBounds_toArray, List.set] at dU
  clear hU dX aW bW qW KX cA cQ cD fD cB fB lA lB lQ lD
  have cA := cell_of_block aU
  have lA := lt_of_block aU
  have HRU := Lib.hid ((O.out.below KU.out).e.rows five_len)
  go_upto_region 10 with (at_builtin; refine wpList_append_new (U.heap.size + 1) rfl (.tmp 52) (.tmp 54) rfl eltEnt rfl rfl (HRU.out.below (by repeat' (first | with_reducible exact Below.refl _ _ | with_reducible assumption | with_reducible refine Below.alloc ?_ ?_ _ | with_reducible refine Below.drew ?_ | with_reducible refine Below.setCell ?_ ?_ _ | omega | (simp; omega) | (simp; done)))) HN0.out (by simp only [maxLen]; omega) (by omega) (by simp <;> omega) ?_; intro x1 d1 v1 q1; have k1 := ((Below.refl U.heap.size U).alloc (Nat.le_refl _) (.cells #[] 92)).trans (q1.below.mono (by simp <;> omega)); have cA := cell_of_block (carryN k1 aU); have fA := unfrozen_of_block (carryN k1 aU))
  obtain ⟨Y, hY⟩ : ∃ Y, Y = v1.setCell ⟨w.heap.size, 0, none⟩ (.slice x1 n0 d1) := ⟨_, rfl⟩
  have R1 := Lib.hid (show Row (v1.setCell ⟨w.heap.size, 0, none⟩ (.slice x1 n0 d1)) U.heap.size 92 x1 d1 5 Rq.cs es from (q1.row.low (Nat.le_succ _)).setType (carryN k1 aU) (by decide) 0 (.slice x1 n0 d1))
  have aY := block_setCell (i := 0) (carryN k1 aU) (.slice x1 n0 d1)
  have bY := (Below.heap_setCell v1 ⟨w.heap.size, 0, none⟩ (.slice x1 n0 d1) _ (by simp)).trans (carryN k1 bU)
  have dY := (Below.heap_setCell v1 ⟨w.heap.size, 0, none⟩ (.slice x1 n0 d1) _ (by simp)).trans (carryN k1 dU)
  have qY := (Below.heap_setCell v1 ⟨w.heap.size, 0, none⟩ (.slice x1 n0 d1) _ (by simp)).trans (carryN k1 qU)
  have KY := Lib.hid (Below.setCell (below_next KU.out k1) (p := ⟨w.heap.size, 0, none⟩) (Nat.le_refl _) (.slice x1 n0 d1))
  have lU := lt_of_block dU
  rw [← hY] at R1 aY bY dY qY KY ⊢
  simp only [List.setIfInBounds_toArray, List.set] at aY
  clear hY q1 k1 cA fA aU bU dU qU KU HRU lA
  obtain ⟨g2, hg2, hg2B, hg2l, -, -, -, -, f4, ff, hr2⟩ := R1.out.entAt (i := m) hml
  subst hg2
  rw [HZM.out] at f4
  have R2 := Lib.hid (R1.out.setOne five_len hml (j := 4) (by decide) ({ zm with y := zm.y + y } : Rq) (.int .i64 (zm.y + y)) rfl (fun j' h1 h2 => by
    rw [HZM.out]
    have : j' = 0 ∨ j' = 1 ∨ j' = 2 ∨ j' = 3 := by omega
    rcases this with rfl | rfl | rfl | rfl <;> rfl) rfl).drew
  have ff4 := ff (m * 5 + 4)
  clear ff
  have cA := cell_of_block aY
  have lA := lt_of_block aY
  have cQ := cell_of_block qY
  have lQ := lt_of_block qY
  have hg2w : w.heap.size + 3 < g2 := by omega
  have ne_ : ¬ (w.heap.size = g2) := by omega
  have ne_ : ¬ (g2 = w.heap.size) := by omega
  have ne_ : ¬ (w.heap.size + 1 = g2) := by omega
  have ne_ : ¬ (g2 = w.heap.size + 1) := by omega
  go_still_tail 14, (by kernel_rfl)
  change wpList _ _ _ _ _ Y.drew
  go_upto_region 25 with fail
  obtain ⟨Z, hZ⟩ : ∃ Z, Z = (Y.setCell ⟨g2, m * 5 + 4, none⟩ (.int .i64 (zm.y + y))).drew := ⟨_, rfl⟩
  have aZ : (Y.setCell ⟨g2, m * 5 + 4, none⟩ (.int .i64 (zm.y + y))).drew.heap[w.heap.size]? = _ := (Below.heap_setCell Y ⟨g2, m * 5 + 4, none⟩ (.int .i64 (zm.y + y)) _ (by simp; omega)).trans aY
  have bZ : (Y.setCell ⟨g2, m * 5 + 4, none⟩ (.int .i64 (zm.y + y))).drew.heap[w.heap.size + 2]? = _ := (Below.heap_setCell Y ⟨g2, m * 5 + 4, none⟩ (.int .i64 (zm.y + y)) _ (by simp; omega)).trans bY
  have dZ : (Y.setCell ⟨g2, m * 5 + 4, none⟩ (.int .i64 (zm.y + y))).drew.heap[w.heap.size + 3]? = _ := (Below.heap_setCell Y ⟨g2, m * 5 + 4, none⟩ (.int .i64 (zm.y + y)) _ (by simp; omega)).trans dY
  have KZ := Lib.hid (Below.setCell KY.out (p := ⟨g2, m * 5 + 4, none⟩) (show w.heap.size ≤ g2 by omega) (.int .i64 (zm.y + y))).drew
  rw [← hZ] at R2 aZ bZ dZ KZ ⊢
  clear hZ aY bY dY qY KY cA cQ lA lQ R1 f4 ff4
  have aW := aZ
  have bW := bZ
  have dX := dZ
  have KX := KZ
  clear aZ bZ dZ KZ
  have HRE := Lib.hid (R2.out.rows five_len)
  have lCur := lt_of_block dX
  obtain ⟨ez, hez⟩ : ∃ ez : Rq, ez = { z with y := z.y - y } := ⟨_, rfl⟩
  have HEZ := Lib.hid hez
  have dE : Z.heap[w.heap.size + 3]? = some (.cells #[.int .i64 ez.c, .int .i64 ez.n, .int .i64 ez.o, .int .i64 ez.x, .int .i64 ez.y] 92 (0, 0)) := by rw [hez]; exact dX
  clear dX hez
  have cA := cell_of_block aW
  have lA := lt_of_block aW
  have lB := lt_of_block bW
  have lD := lt_of_block dE
  go_upto_region 26 with (at_builtin; refine wpList_append_new (Z.heap.size + 1) rfl (.tmp 147) (.tmp 149) rfl eltEnt rfl rfl (HRE.out.below (by repeat' (first | with_reducible exact Below.refl _ _ | with_reducible assumption | with_reducible refine Below.alloc ?_ ?_ _ | with_reducible refine Below.drew ?_ | with_reducible refine Below.setCell ?_ ?_ _ | omega | (simp; omega) | (simp; done)))) (by rw [List.length_set]; exact HN0.out) (by simp only [maxLen]; omega) (by omega) (by simp <;> omega) ?_; intro x9 d9 w9 q9; have k9 := ((Below.refl Z.heap.size Z).alloc (Nat.le_refl _) (.cells #[] 92)).trans (q9.below.mono (by simp <;> omega)); have cA := cell_of_block (carryN k9 aW); have fA := unfrozen_of_block (carryN k9 aW))
  obtain ⟨S, hS⟩ : ∃ S, S = w9.setCell ⟨w.heap.size, 0, none⟩ (.slice x9 n0 d9) := ⟨_, rfl⟩
  have R9 := Lib.hid (show Row (w9.setCell ⟨w.heap.size, 0, none⟩ (.slice x9 n0 d9)) Z.heap.size 92 x9 d9 5 Rq.cs (es.set m { zm with y := zm.y + y }) from (q9.row.low (Nat.le_succ _)).setType (carryN k9 aW) (by decide) 0 (.slice x9 n0 d9))
  have aS := block_setCell (i := 0) (carryN k9 aW) (.slice x9 n0 d9)
  have bS := (Below.heap_setCell w9 ⟨w.heap.size, 0, none⟩ (.slice x9 n0 d9) _ (by simp)).trans (carryN k9 bW)
  have dS := (Below.heap_setCell w9 ⟨w.heap.size, 0, none⟩ (.slice x9 n0 d9) _ (by simp)).trans (carryN k9 dE)
  have KS := Lib.hid (Below.setCell (below_next KX.out k9) (p := ⟨w.heap.size, 0, none⟩) (Nat.le_refl _) (.slice x9 n0 d9))
  rw [← hS] at R9 aS bS dS KS ⊢
  simp only [List.setIfInBounds_toArray, List.set] at aS
  clear hS q9 k9 cA fA aW bW dE lA lB lD HRE KX
  obtain ⟨g9, hg9, hg9B, hg9l, s0, s1, s2, s3, s4, ff, hr9⟩ := R9.out.entAt (i := k) (by first | exact hkz | (simp only [List.length_set]; exact hkz))
  subst hg9
  have ff0 := ff (k * 5)
  have ff1 := ff (k * 5 + 1)
  have ff2 := ff (k * 5 + 2)
  have ff3 := ff (k * 5 + 3)
  have ff4 := ff (k * 5 + 4)
  clear ff
  have cA := cell_of_block aS
  have cD := cell_of_block dS
  have lA := lt_of_block aS
  have lB := lt_of_block bS
  have lD := lt_of_block dS
  have hg9w : w.heap.size + 3 < g9 := by omega
  have ne_ : ¬ (w.heap.size = g9) := by omega
  have ne_ : ¬ (g9 = w.heap.size) := by omega
  have ne_ : ¬ (w.heap.size + 3 = g9) := by omega
  have ne_ : ¬ (g9 = w.heap.size + 3) := by omega
  go_upto_region 27 with fail
  obtain ⟨V, hV⟩ : ∃ V, V = five5 S g9 (k * 5) ez := ⟨_, rfl⟩
  have RV := Lib.hid (R9.out.setFive (k := k) (by first | exact hkz | (simp only [List.length_set]; exact hkz)) ez)
  have aV := (block_kept5 (w := S) (g := g9) (o := k * 5) (b := w.heap.size) (by omega) ez).trans aS
  have bV := (block_kept5 (w := S) (g := g9) (o := k * 5) (b := w.heap.size + 2) (by omega) ez).trans bS
  have KV := Lib.hid (below_set5 KS.out (show w.heap.size ≤ g9 by omega) (k * 5) ez)
  have hV2 := hV
  unfold five5 at hV2
  rw [← hV] at RV aV bV KV
  rw [← hV2]
  clear hV hV2 aS bS dS R9 KS s0 s1 s2 s3 s4 ff0 ff1 ff2 ff3 ff4 cA cD lA lB lD
  have cA := cell_of_block aV
  have cB := cell_of_block bV
  have fB := unfrozen_of_block bV
  have lA := lt_of_block aV
  have lB := lt_of_block bV
  have KF := Lib.hid (below_set3 KV.out (show w.heap.size ≤ w.heap.size + 2 by omega) (.slice (some ⟨g9, 0, none⟩) n0 d9) (.slice a1 16 c1) (.slice a2 n2 c2))
  have RVF := Lib.hid (((RV.out.setType bV (by decide) 0 (.slice (some ⟨g9, 0, none⟩) n0 d9)).setType (block_setCell bV _) (by decide) 1 (.slice a1 16 c1)).setType (block_setCell (block_setCell bV _) _) (by decide) 2 (.slice a2 n2 c2))
  go_wp2_with fail
  refine bodyPost_ret (v := .tuple #[.agg #[.slice (some ⟨g9, 0, none⟩) n0 d9, .slice a1 16 c1, .slice a2 n2 c2], .int .i64 0]) (by simp [results, Try.results124, go_sem, cB]) rfl ?_
  rw [HGK.out, HGN.out, ← HEZ.out]
  exact ⟨_, rfl, (O.out.newE KF.out RVF.out (by omega) hB).gmV (by simp only [List.length_set]; exact HN0.out) HN1.out HN2.out, KF.out⟩
end Go.Proofs.Ytofedboeggdkaaa

/-! The reference's l2Act, of any ask that is ok but joining; condition: a game that is ok but for the last asks. -/
namespace Go.Proofs.Ytofedboeggdkaaa
open Go.RowKit Go.Joins

theorem l2Act_c {B : Nat} {X : Nat → Prop} (es : List Rq) (fl la : List Int) (k n0 n2 : Nat) (a0 a1 a2 : Option Addr) (c0 c1 c2 : Nat) (r : Rq) (w : World) (h : OwnX X w B a0 c0 a1 c1 a2 c2 ⟨es, fl, la⟩) (hn0 : es.length = n0) (hn1 : fl.length = 16) (hn2 : la.length = n2) (hk : k < n0) (h4 : n0 ≤ 4) (hB : B ≤ w.heap.size) (hp : Places es) (hf : ∀ n ∈ fl, 0 ≤ n ∧ n ≤ 20)
    (hr : okB r.c r.n r.o r.x r.y = true) (ho1 : r.o ≠ 1) :
    Calls Try.prog 124 #[.agg #[.slice a0 n0 c0, .slice a1 16 c1, .slice a2 n2 c2], .int .i64 k, .agg #[.int .i64 r.c, .int .i64 r.n, .int .i64 r.o, .int .i64 r.x, .int .i64 r.y]] w (RetX X B (actG ⟨es, fl, la⟩ k r).1 (actG ⟨es, fl, la⟩ k r).2 w) := by
  have hb := okB_xy hr
  obtain ⟨c, n, o, x, y⟩ := r
  simp only at hb ho1 hr ⊢
  have hx : -1 ≤ x ∧ x ≤ 4 := by omega
  have hy : -1 ≤ y ∧ y ≤ 9 := by omega
  by_cases h2 : o = 2
  · subst h2
    cases hbb : (inB ((entN es k).n + x) 0 3 && inB ((entN es k).o + y) 0 3) with
    | true =>
      have e : actG ⟨es, fl, la⟩ k ⟨c, n, 2, x, y⟩ = (⟨es.set k { (entN es k) with n := (entN es k).n + x, o := (entN es k).o + y }, fl, la⟩, 0) := by
        unfold actG; simp only [if_true]; rw [if_pos hbb]
      rw [e]
      exact l2Act_move es fl la k n0 n2 a0 a1 a2 c0 c1 c2 c n x y w h hn0 hn1 hn2 hk h4 hB hp hf hx hy hbb
    | false =>
      have e : actG ⟨es, fl, la⟩ k ⟨c, n, 2, x, y⟩ = (⟨es, fl, la⟩, 6) := by
        unfold actG; simp only [if_true]; rw [if_neg (by rw [hbb]; decide)]
      rw [e]
      exact l2Act_move_no es fl la k n0 n2 a0 a1 a2 c0 c1 c2 c n x y w h hn0 hn1 hn2 hk h4 hB hp hf hx hy hbb
  · by_cases h3 : o = 3
    · subst h3
      by_cases hv : fl.getD (sqOf (entN es k)) 0 = 0
      · have e : actG ⟨es, fl, la⟩ k ⟨c, n, 3, x, y⟩ = (⟨es, fl, la⟩, 7) := by
          unfold actG; simp only; rw [if_neg (by decide), if_pos trivial, if_pos hv]
        rw [e]
        exact l2Act_take_no es fl la k n0 n2 a0 a1 a2 c0 c1 c2 c n x y w h hn0 hn1 hn2 hk h4 hB hp hf hx hy hv
      · have e : actG ⟨es, fl, la⟩ k ⟨c, n, 3, x, y⟩ = (⟨es.set k { (entN es k) with y := (entN es k).y + 1 }, addAt fl (sqOf (entN es k)) (-1), la⟩, 0) := by
          unfold actG; simp only; rw [if_neg (by decide), if_pos trivial, if_neg hv]
        rw [e]
        exact l2Act_take es fl la k n0 n2 a0 a1 a2 c0 c1 c2 c n x y w h hn0 hn1 hn2 hk h4 hB hp hf hx hy hv
    · by_cases h4' : o = 4
      · subst h4'
        have e : actG ⟨es, fl, la⟩ k ⟨c, n, 4, x, y⟩ = hitR ⟨es, fl, la⟩ k (figAt es x) := by
          unfold actG hitR
          simp only
          rw [if_neg (by decide), if_neg (by decide)]
          cases figAt es x <;> simp
        rw [e]
        exact l2Act_hit es fl la k n0 n2 a0 a1 a2 c0 c1 c2 c n x y w h hn0 hn1 hn2 hk h4 hB hp hf hx hy
      · have hfar : (∀ m, figAt es x = some m → m = k ∨ nearB (entN es k) (entN es m) = false) → actG ⟨es, fl, la⟩ k ⟨c, n, o, x, y⟩ = (⟨es, fl, la⟩, 8) := by
          intro hq
          unfold actG
          simp only
          rw [if_neg h2, if_neg h3]
          cases hfa : figAt es x with
          | none => rfl
          | some m =>
            simp only
            rw [if_pos (hq m hfa)]
        by_cases hq : ∀ m, figAt es x = some m → m = k ∨ nearB (entN es k) (entN es m) = false
        · rw [hfar hq]
          exact l2Act_give_far es fl la k n0 n2 a0 a1 a2 c0 c1 c2 c n o x y w h hn0 hn1 hn2 hk h4 hB hp hf hx hy h2 h3 h4' hq
        · have hq' : ∃ m, figAt es x = some m ∧ m ≠ k ∧ nearB (entN es k) (entN es m) = true := by
            cases hfa : figAt es x with
            | none => exact absurd (fun m hm => by rw [hfa] at hm; cases hm) hq
            | some m =>
              refine ⟨m, rfl, fun e => hq (fun m' hm' => ?_), ?_⟩
              · rw [hfa] at hm'; injection hm' with hm'; exact .inl (hm' ▸ e)
              · cases hb2 : nearB (entN es k) (entN es m) with
                | true => rfl
                | false => exact absurd (fun m' hm' => by rw [hfa] at hm'; injection hm' with hm'; exact .inr (hm' ▸ hb2)) hq
          obtain ⟨m, hfa, hmk, hnr⟩ := hq'
          have hne : ¬ (m = k ∨ nearB (entN es k) (entN es m) = false) := fun q => q.elim hmk (fun q => by rw [hnr] at q; cases q)
          by_cases hpo : (entN es k).y < y
          · have e : actG ⟨es, fl, la⟩ k ⟨c, n, o, x, y⟩ = (⟨es, fl, la⟩, 7) := by
              unfold actG
              simp only
              rw [if_neg h2, if_neg h3, hfa]
              simp only
              rw [if_neg hne, if_neg h4', if_pos hpo]
            rw [e]
            exact l2Act_give_poor es fl la k n0 n2 a0 a1 a2 c0 c1 c2 c n o x y w h hn0 hn1 hn2 hk h4 hB hp hf hx hy h2 h3 h4' m hfa hmk hnr hpo
          · have e : actG ⟨es, fl, la⟩ k ⟨c, n, o, x, y⟩ = (⟨(es.set m { (entN es m) with y := (entN es m).y + y }).set k { (entN es k) with y := (entN es k).y - y }, fl, la⟩, 0) := by
              unfold actG
              simp only
              rw [if_neg h2, if_neg h3, hfa]
              simp only
              rw [if_neg hne, if_neg h4', if_neg hpo]
            rw [e]
            exact l2Act_give es fl la k n0 n2 a0 a1 a2 c0 c1 c2 c n o x y w h hn0 hn1 hn2 hk h4 hB hp hf hx hy h2 h3 h4' m hfa hmk hnr hpo
end Go.Proofs.Ytofedboeggdkaaa

/-! The reference's l2Join; condition: small sizes. -/
namespace Go.Proofs.Ytofedboeggdkaaa
open Go.RowKit Go.Joins

theorem rowsAt_ent (w : World) (r : Rq) (t : TypeId) : RowsAt (w.alloc (.cells #[.int .i64 r.c, .int .i64 r.n, .int .i64 r.o, .int .i64 r.x, .int .i64 r.y] t)) (some ⟨w.heap.size, 0, none⟩) 5 Rq.cs [r] :=
  rows_of_block (t := t) (fr := (0, 0)) five_len (heap_alloc_new w (.cells #[.int .i64 r.c, .int .i64 r.n, .int .i64 r.o, .int .i64 r.x, .int .i64 r.y] t))
def JoinOut (X : Nat → Prop) (B n0 n2 : Nat) (a1 a2 : Option Addr) (c1 c2 : Nat) (es : List Rq) (fl la : List Int) (w : World) (e : Ending) (w' : World) : Prop :=
  ∃ b0 d0, e = .returned (.agg #[.slice b0 (n0 + 1) d0, .slice a1 16 c1, .slice a2 n2 c2]) ∧ OwnX X w' B b0 d0 a1 c1 a2 c2 ⟨es, fl, la⟩ ∧ Below w.heap.size w w'

set_option maxRecDepth 100000 in
set_option maxHeartbeats 8000000 in
theorem l2Join_b {B : Nat} {X : Nat → Prop} (es : List Rq) (fl la : List Int) (c : Int) (g0 n0 c0 : Nat) (hc0 : 0 < c0) (n2 : Nat) (a1 a2 : Option Addr) (c1 c2 : Nat) (w : World) (h : OwnX X w B (some ⟨g0, 0, none⟩) c0 a1 c1 a2 c2 ⟨es, fl, la⟩) (hn0 : es.length = n0) (h4 : n0 ≤ 4) (hB : B ≤ w.heap.size) (hc : 1 ≤ c ∧ c ≤ 4) :
    Calls Try.prog 123 #[.agg #[.slice (some ⟨g0, 0, none⟩) n0 c0, .slice a1 16 c1, .slice a2 n2 c2], .int .i64 c] w (JoinOut X B n0 n2 a1 a2 c1 c2 (joinE es c) fl la w) := by
  have O := Lib.hid h
  have HN0 := Lib.hid hn0
  have hle0 : n0 ≤ c0 := by have := h.e.len; simp only at this; omega
  have hc0m := h.e.max
  unfold maxLen at hc0m
  clear h hn0
  have hw1 : IntKind.i64.wrap (c - 1) = c - 1 := IntWalk.i64_in _ ⟨by omega, by omega⟩
  go_enter Try.func123, Try.ntmps123
  go_upto_region 1 with fail
  obtain ⟨W, hW, sW, aW, bW, kW⟩ := blocks2 w (.cells #[.slice (some ⟨g0, 0, none⟩) n0 c0, .slice a1 16 c1, .slice a2 n2 c2] 46) (.cells #[.slice none 0 0, .slice none 0 0, .slice none 0 0] 46)
  rw [← hW]
  clear hW
  have HA := Lib.hid aW
  have HB := Lib.hid bW
  have HKW := Lib.hid kW
  have hl0 : w.heap.size < W.heap.size := by omega
  have hl1 : w.heap.size + 1 < W.heap.size := by omega
  clear aW bW kW sW
  go_wp2_with fail
  go_loopw [5] (fun i wr => ∃ k : Nat, k ≤ n0 ∧ i = .int .i64 k ∧ (∀ j (hj : j < es.length), j < k → es[j].c < c) ∧ Below W.heap.size W wr) (fun i _ => n0 - (intOf i).toNat)
  case atStart => exact ⟨0, Nat.zero_le _, rfl, fun j _ hj => absurd hj (Nat.not_lt_zero j), Below.refl _ _⟩
  case round =>
    obtain ⟨k, hk, rfl, hall, hbel⟩ := hrel
    have HL := Lib.hid hall
    clear hall
    have aW := carryN hbel HA.out
    have bW := carryN hbel HB.out
    have cA := cell_of_block aW
    have KW := Lib.hid (HKW.out.trans (hbel.mono (by omega)))
    by_cases hlt : k < n0
    · have hkz : k < es.length := by rw [HN0.out]; exact hlt
      have hk1 : (k : Int) < (n0 : Int) := by omega
      have hk0 : (0 : Int) ≤ (k : Int) := by omega
      have hOE := (O.out.below KW.out).e
      obtain ⟨g9, hg9, hgB, hgl, e0, -, -, -, -, -, -⟩ := hOE.entAt (i := k) hkz
      injection hg9 with hg9
      injection hg9 with hg9
      subst hg9
      clear hOE hgB
      simp only at e0
      by_cases he : es[k].c < c
      · go_wp2_with fail
        refine ⟨⟨k + 1, by omega, by go_num, fun j hj hjk => ?_, hbel⟩, by simp [intOf]; omega⟩
        by_cases hjk' : j = k
        · subst hjk'; exact he
        · exact HL.out j hj (by omega)
      · have hcz : ¬ c0 = k := by omega
        have HJ := Lib.hid (joinE_at (c := c) (Nat.le_of_lt hkz) HL.out (fun _ => he))
        have hsr := hbel.size
        have lA : w.heap.size < wr.heap.size := by omega
        have lB : w.heap.size + 1 < wr.heap.size := by omega
        have HRE := Lib.hid ((O.out.below KW.out).e.rows five_len)
        have hkc : (k : Int) ≤ (c0 : Int) := by omega
        have hkn : (k : Int) ≤ (n0 : Int) := by omega
        go_upto_region 5 with (at_builtin; refine wpList_append_new (wr.heap.size + 1) rfl (.tmp 24) (.tmp 28) rfl eltEnt rfl rfl (ys := es.take k) ((HRE.out.takeG k).below (by repeat' (first | with_reducible exact Below.refl _ _ | with_reducible assumption | with_reducible refine Below.alloc ?_ ?_ _ | with_reducible refine Below.drew ?_ | with_reducible refine Below.setCell ?_ ?_ _ | omega | (simp; omega) | (simp; done)))) (by have := HN0.out; rw [List.length_take]; omega) (by simp only [maxLen]; omega) (by omega) (by simp <;> omega) ?_; intro x1 d1 w1 q1)
        have k1 := ((Below.refl wr.heap.size wr).alloc (Nat.le_refl _) (.cells #[] 92)).trans (q1.below.mono (by simp <;> omega))
        replace aW := carryN k1 aW
        replace bW := carryN k1 bW
        have K1 := Lib.hid (below_next KW.out k1)
        have R1 := Lib.hid (show Row w1 wr.heap.size 92 x1 d1 5 Rq.cs (es.take k) from q1.row.low (Nat.le_succ _))
        have HB1 := Lib.hid (fun g (hg : rowBlk x1 d1 = some g) => (show wr.heap.size ≤ g from Nat.le_trans (Nat.le_succ _) (q1.row.blk hg).1))
        have s1 := k1.size
        have HR1 := Lib.hid (HRE.out.below k1)
        clear HRE
        clear q1 k1 cA lA lB KW
        have cA := cell_of_block aW
        have lA := lt_of_block aW
        have lB := lt_of_block bW
        obtain ⟨X, hX⟩ : ∃ X, X = w1.alloc (.cells #[.int .i64 c, .int .i64 (c - 1), .int .i64 (c - 1), .int .i64 3, .int .i64 0] 92) := ⟨_, rfl⟩
        have RX := Lib.hid (rowsAt_ent w1 ⟨c, c - 1, c - 1, 3, 0⟩ 92)
        go_upto_region 6 with (at_builtin; refine wpList_append_row rfl (.tmp 30) (.tmp 37) rfl (k + 1) eltEnt rfl rfl (R1.out.alloc _) RX.out (by have := HN0.out; rw [List.length_take]; omega) rfl rfl (by simp only [maxLen]; omega) (by omega) (by simp; omega) ?_; intro x2 d2 w2 q2)
        clear hX X
        have s2 := q2.grown.size
        rw [World.size_alloc] at s2
        have ka := (Below.refl w1.heap.size w1).alloc (Nat.le_refl _) (.cells #[.int .i64 c, .int .i64 (c - 1), .int .i64 (c - 1), .int .i64 3, .int .i64 0] 92)
        have a2 := (q2.grown.block w.heap.size (by simp; omega) (fun e => by have := HB1.out _ e.symm; omega)).trans (carryN ka aW)
        have b2 := (q2.grown.block (w.heap.size + 1) (by simp; omega) (fun e => by have := HB1.out _ e.symm; omega)).trans (carryN ka bW)
        have kb : Below wr.heap.size w1 w2 := (ka.mono s1).grown q2.grown (by simp; omega) (fun g hg => HB1.out _ hg)
        have K2 := Lib.hid (K1.out.trans (kb.mono (by omega)))
        have R2 := Lib.hid q2.row
        have HB2 := Lib.hid (fun g (hg : rowBlk x2 d2 = some g) => (show wr.heap.size ≤ g from (q2.row.blk hg).1))
        have hR2 : RowsAt w2 (some ⟨g0, 0, none⟩) 5 Rq.cs es := (O.out.below K2.out).e.rows five_len
        have hT := hR2.tailG k c0 (fun h => by have := HN0.out; omega)
        clear hR2
        rw [if_neg hcz, Nat.zero_add] at hT
        have T := Lib.hid hT
        clear hT
        clear q2 ka kb aW bW cA lA lB K1 R1 RX
        have cA := cell_of_block a2
        have lA := lt_of_block a2
        have lB := lt_of_block b2
        go_upto_region 7 with (at_builtin; refine wpList_append_row rfl (.tmp 39) (.tmp 43) rfl (n0 + 1) eltEnt rfl rfl R2.out (ys := es.drop k) T.out (by have := HN0.out; rw [List.length_append, List.length_take]; simp; omega) (by rw [List.length_drop, HN0.out]) (by omega) (by simp only [maxLen]; omega) (by omega) (by omega) ?_; intro x3 d3 w3 q3; have cA3 := cell_of_block ((q3.grown.block w.heap.size (by omega) (fun e => by have := HB2.out _ e.symm; omega)).trans a2); have fA3 := unfrozen_of_block ((q3.grown.block w.heap.size (by omega) (fun e => by have := HB2.out _ e.symm; omega)).trans a2))
        obtain ⟨V, hV⟩ : ∃ V, V = w3.setCell ⟨w.heap.size, 0, none⟩ (.slice x3 (n0 + 1) d3) := ⟨_, rfl⟩
        have a3 := (q3.grown.block w.heap.size (by omega) (fun e => by have := HB2.out _ e.symm; omega)).trans a2
        have b3 := (q3.grown.block (w.heap.size + 1) (by omega) (fun e => by have := HB2.out _ e.symm; omega)).trans b2
        have aV := block_setCell (i := 0) a3 (.slice x3 (n0 + 1) d3)
        have bV := (Below.heap_setCell w3 ⟨w.heap.size, 0, none⟩ (.slice x3 (n0 + 1) d3) _ (by simp)).trans b3
        have RE := Lib.hid (q3.row.setOther (p := ⟨w.heap.size, 0, none⟩) (by simp; omega) (.slice x3 (n0 + 1) d3))
        have KV := Lib.hid (Below.setCell (K2.out.grown q3.grown (by omega) (fun g hg => by have := HB2.out _ hg; omega)) (p := ⟨w.heap.size, 0, none⟩) (Nat.le_refl _) (.slice x3 (n0 + 1) d3))
        skip
        rw [← hV] at aV bV RE KV ⊢
        simp only [List.setIfInBounds_toArray, List.set] at aV
        clear hV q3 a3 b3 a2 b2 K2 cA3 fA3 HB2 cA lA lB
        have cA := cell_of_block aV
        have cB := cell_of_block bV
        have fB := unfrozen_of_block bV
        have lA := lt_of_block aV
        have lB := lt_of_block bV
        go_wp2_with fail
        refine bodyPost_ret (v := .agg #[.slice x3 (n0 + 1) d3, .slice a1 16 c1, .slice a2 n2 c2]) (by simp [results, Try.results123, go_sem, cB]) rfl ?_
        have hre := RE.out
        have KV' := KV.out
        rw [HJ.out]
        refine ⟨x3, d3, rfl, O.out.newE ?_ (B' := w.heap.size + 2) ?_ (by omega) hB, ?_⟩
        · exact (by repeat' (first | with_reducible exact Below.refl _ _ | with_reducible assumption | with_reducible refine Below.alloc ?_ ?_ _ | with_reducible refine Below.drew ?_ | with_reducible refine Below.setCell ?_ ?_ _ | omega | (simp; omega) | (simp; done)))
        · exact ((((hre.low (by omega)).setOther (by simp) _).setOther (by simp) _).setOther (by simp) _)
        · exact (by repeat' (first | with_reducible exact Below.refl _ _ | with_reducible assumption | with_reducible refine Below.alloc ?_ ?_ _ | with_reducible refine Below.drew ?_ | with_reducible refine Below.setCell ?_ ?_ _ | omega | (simp; omega) | (simp; done)))
    · have hkk : n0 = k := by omega
      subst hkk
      have HJ := Lib.hid (joinE_at (c := c) (k := n0) (by rw [HN0.out]; exact Nat.le_refl _) HL.out (fun h => absurd h (by rw [HN0.out]; exact Nat.lt_irrefl _)))
      have hk0 : (0 : Int) ≤ (n0 : Int) := by omega
      by_cases hcz : c0 = n0
      · skip
        have hsr := hbel.size
        have lA : w.heap.size < wr.heap.size := by omega
        have lB : w.heap.size + 1 < wr.heap.size := by omega
        have HRE := Lib.hid ((O.out.below KW.out).e.rows five_len)
        have hkc : (n0 : Int) ≤ (c0 : Int) := by omega
        have hkn : (n0 : Int) ≤ (n0 : Int) := by omega
        go_upto_region 5 with (at_builtin; refine wpList_append_new (wr.heap.size + 1) rfl (.tmp 24) (.tmp 28) rfl eltEnt rfl rfl (ys := es.take n0) ((HRE.out.takeG n0).below (by repeat' (first | with_reducible exact Below.refl _ _ | with_reducible assumption | with_reducible refine Below.alloc ?_ ?_ _ | with_reducible refine Below.drew ?_ | with_reducible refine Below.setCell ?_ ?_ _ | omega | (simp; omega) | (simp; done)))) (by have := HN0.out; rw [List.length_take]; omega) (by simp only [maxLen]; omega) (by omega) (by simp <;> omega) ?_; intro x1 d1 w1 q1)
        have k1 := ((Below.refl wr.heap.size wr).alloc (Nat.le_refl _) (.cells #[] 92)).trans (q1.below.mono (by simp <;> omega))
        replace aW := carryN k1 aW
        replace bW := carryN k1 bW
        have K1 := Lib.hid (below_next KW.out k1)
        have R1 := Lib.hid (show Row w1 wr.heap.size 92 x1 d1 5 Rq.cs (es.take n0) from q1.row.low (Nat.le_succ _))
        have HB1 := Lib.hid (fun g (hg : rowBlk x1 d1 = some g) => (show wr.heap.size ≤ g from Nat.le_trans (Nat.le_succ _) (q1.row.blk hg).1))
        have s1 := k1.size
        have HR1 := Lib.hid (HRE.out.below k1)
        clear HRE
        clear q1 k1 cA lA lB KW
        have cA := cell_of_block aW
        have lA := lt_of_block aW
        have lB := lt_of_block bW
        obtain ⟨X, hX⟩ : ∃ X, X = w1.alloc (.cells #[.int .i64 c, .int .i64 (c - 1), .int .i64 (c - 1), .int .i64 3, .int .i64 0] 92) := ⟨_, rfl⟩
        have RX := Lib.hid (rowsAt_ent w1 ⟨c, c - 1, c - 1, 3, 0⟩ 92)
        go_upto_region 6 with (at_builtin; refine wpList_append_row rfl (.tmp 30) (.tmp 37) rfl (n0 + 1) eltEnt rfl rfl (R1.out.alloc _) RX.out (by have := HN0.out; rw [List.length_take]; omega) rfl rfl (by simp only [maxLen]; omega) (by omega) (by simp; omega) ?_; intro x2 d2 w2 q2)
        clear hX X
        have s2 := q2.grown.size
        rw [World.size_alloc] at s2
        have ka := (Below.refl w1.heap.size w1).alloc (Nat.le_refl _) (.cells #[.int .i64 c, .int .i64 (c - 1), .int .i64 (c - 1), .int .i64 3, .int .i64 0] 92)
        have a2 := (q2.grown.block w.heap.size (by simp; omega) (fun e => by have := HB1.out _ e.symm; omega)).trans (carryN ka aW)
        have b2 := (q2.grown.block (w.heap.size + 1) (by simp; omega) (fun e => by have := HB1.out _ e.symm; omega)).trans (carryN ka bW)
        have kb : Below wr.heap.size w1 w2 := (ka.mono s1).grown q2.grown (by simp; omega) (fun g hg => HB1.out _ hg)
        have K2 := Lib.hid (K1.out.trans (kb.mono (by omega)))
        have R2 := Lib.hid q2.row
        have HB2 := Lib.hid (fun g (hg : rowBlk x2 d2 = some g) => (show wr.heap.size ≤ g from (q2.row.blk hg).1))
        have hR2 : RowsAt w2 (some ⟨g0, 0, none⟩) 5 Rq.cs es := (O.out.below K2.out).e.rows five_len
        have hT := hR2.tailG n0 c0 (fun h => by have := HN0.out; omega)
        clear hR2
        rw [if_pos hcz] at hT
        have T := Lib.hid hT
        clear hT
        clear q2 ka kb aW bW cA lA lB K1 R1 RX
        have cA := cell_of_block a2
        have lA := lt_of_block a2
        have lB := lt_of_block b2
        go_upto_region 7 with (at_builtin; refine wpList_append_row rfl (.tmp 39) (.tmp 43) rfl (n0 + 1) eltEnt rfl rfl R2.out (ys := es.drop n0) T.out (by have := HN0.out; rw [List.length_append, List.length_take]; simp; omega) (by rw [List.length_drop, HN0.out] <;> omega) (by omega) (by simp only [maxLen]; omega) (by omega) (by omega) ?_; intro x3 d3 w3 q3; have cA3 := cell_of_block ((q3.grown.block w.heap.size (by omega) (fun e => by have := HB2.out _ e.symm; omega)).trans a2); have fA3 := unfrozen_of_block ((q3.grown.block w.heap.size (by omega) (fun e => by have := HB2.out _ e.symm; omega)).trans a2))
        obtain ⟨V, hV⟩ : ∃ V, V = w3.setCell ⟨w.heap.size, 0, none⟩ (.slice x3 (n0 + 1) d3) := ⟨_, rfl⟩
        have a3 := (q3.grown.block w.heap.size (by omega) (fun e => by have := HB2.out _ e.symm; omega)).trans a2
        have b3 := (q3.grown.block (w.heap.size + 1) (by omega) (fun e => by have := HB2.out _ e.symm; omega)).trans b2
        have aV := block_setCell (i := 0) a3 (.slice x3 (n0 + 1) d3)
        have bV := (Below.heap_setCell w3 ⟨w.heap.size, 0, none⟩ (.slice x3 (n0 + 1) d3) _ (by simp)).trans b3
        have RE := Lib.hid (q3.row.setOther (p := ⟨w.heap.size, 0, none⟩) (by simp; omega) (.slice x3 (n0 + 1) d3))
        have KV := Lib.hid (Below.setCell (K2.out.grown q3.grown (by omega) (fun g hg => by have := HB2.out _ hg; omega)) (p := ⟨w.heap.size, 0, none⟩) (Nat.le_refl _) (.slice x3 (n0 + 1) d3))
        skip
        rw [← hV] at aV bV RE KV ⊢
        simp only [List.setIfInBounds_toArray, List.set] at aV
        clear hV q3 a3 b3 a2 b2 K2 cA3 fA3 HB2 cA lA lB
        have cA := cell_of_block aV
        have cB := cell_of_block bV
        have fB := unfrozen_of_block bV
        have lA := lt_of_block aV
        have lB := lt_of_block bV
        go_wp2_with fail
        refine bodyPost_ret (v := .agg #[.slice x3 (n0 + 1) d3, .slice a1 16 c1, .slice a2 n2 c2]) (by simp [results, Try.results123, go_sem, cB]) rfl ?_
        have hre := RE.out
        have KV' := KV.out
        rw [HJ.out]
        refine ⟨x3, d3, rfl, O.out.newE ?_ (B' := w.heap.size + 2) ?_ (by omega) hB, ?_⟩
        · exact (by repeat' (first | with_reducible exact Below.refl _ _ | with_reducible assumption | with_reducible refine Below.alloc ?_ ?_ _ | with_reducible refine Below.drew ?_ | with_reducible refine Below.setCell ?_ ?_ _ | omega | (simp; omega) | (simp; done)))
        · exact ((((hre.low (by omega)).setOther (by simp) _).setOther (by simp) _).setOther (by simp) _)
        · exact (by repeat' (first | with_reducible exact Below.refl _ _ | with_reducible assumption | with_reducible refine Below.alloc ?_ ?_ _ | with_reducible refine Below.drew ?_ | with_reducible refine Below.setCell ?_ ?_ _ | omega | (simp; omega) | (simp; done)))
      · skip
        have hsr := hbel.size
        have lA : w.heap.size < wr.heap.size := by omega
        have lB : w.heap.size + 1 < wr.heap.size := by omega
        have HRE := Lib.hid ((O.out.below KW.out).e.rows five_len)
        have hkc : (n0 : Int) ≤ (c0 : Int) := by omega
        have hkn : (n0 : Int) ≤ (n0 : Int) := by omega
        go_upto_region 5 with (at_builtin; refine wpList_append_new (wr.heap.size + 1) rfl (.tmp 24) (.tmp 28) rfl eltEnt rfl rfl (ys := es.take n0) ((HRE.out.takeG n0).below (by repeat' (first | with_reducible exact Below.refl _ _ | with_reducible assumption | with_reducible refine Below.alloc ?_ ?_ _ | with_reducible refine Below.drew ?_ | with_reducible refine Below.setCell ?_ ?_ _ | omega | (simp; omega) | (simp; done)))) (by have := HN0.out; rw [List.length_take]; omega) (by simp only [maxLen]; omega) (by omega) (by simp <;> omega) ?_; intro x1 d1 w1 q1)
        have k1 := ((Below.refl wr.heap.size wr).alloc (Nat.le_refl _) (.cells #[] 92)).trans (q1.below.mono (by simp <;> omega))
        replace aW := carryN k1 aW
        replace bW := carryN k1 bW
        have K1 := Lib.hid (below_next KW.out k1)
        have R1 := Lib.hid (show Row w1 wr.heap.size 92 x1 d1 5 Rq.cs (es.take n0) from q1.row.low (Nat.le_succ _))
        have HB1 := Lib.hid (fun g (hg : rowBlk x1 d1 = some g) => (show wr.heap.size ≤ g from Nat.le_trans (Nat.le_succ _) (q1.row.blk hg).1))
        have s1 := k1.size
        have HR1 := Lib.hid (HRE.out.below k1)
        clear HRE
        clear q1 k1 cA lA lB KW
        have cA := cell_of_block aW
        have lA := lt_of_block aW
        have lB := lt_of_block bW
        obtain ⟨X, hX⟩ : ∃ X, X = w1.alloc (.cells #[.int .i64 c, .int .i64 (c - 1), .int .i64 (c - 1), .int .i64 3, .int .i64 0] 92) := ⟨_, rfl⟩
        have RX := Lib.hid (rowsAt_ent w1 ⟨c, c - 1, c - 1, 3, 0⟩ 92)
        go_upto_region 6 with (at_builtin; refine wpList_append_row rfl (.tmp 30) (.tmp 37) rfl (n0 + 1) eltEnt rfl rfl (R1.out.alloc _) RX.out (by have := HN0.out; rw [List.length_take]; omega) rfl rfl (by simp only [maxLen]; omega) (by omega) (by simp; omega) ?_; intro x2 d2 w2 q2)
        clear hX X
        have s2 := q2.grown.size
        rw [World.size_alloc] at s2
        have ka := (Below.refl w1.heap.size w1).alloc (Nat.le_refl _) (.cells #[.int .i64 c, .int .i64 (c - 1), .int .i64 (c - 1), .int .i64 3, .int .i64 0] 92)
        have a2 := (q2.grown.block w.heap.size (by simp; omega) (fun e => by have := HB1.out _ e.symm; omega)).trans (carryN ka aW)
        have b2 := (q2.grown.block (w.heap.size + 1) (by simp; omega) (fun e => by have := HB1.out _ e.symm; omega)).trans (carryN ka bW)
        have kb : Below wr.heap.size w1 w2 := (ka.mono s1).grown q2.grown (by simp; omega) (fun g hg => HB1.out _ hg)
        have K2 := Lib.hid (K1.out.trans (kb.mono (by omega)))
        have R2 := Lib.hid q2.row
        have HB2 := Lib.hid (fun g (hg : rowBlk x2 d2 = some g) => (show wr.heap.size ≤ g from (q2.row.blk hg).1))
        have hR2 : RowsAt w2 (some ⟨g0, 0, none⟩) 5 Rq.cs es := (O.out.below K2.out).e.rows five_len
        have hT := hR2.tailG n0 c0 (fun h => by have := HN0.out; omega)
        clear hR2
        rw [if_neg hcz, Nat.zero_add] at hT
        have T := Lib.hid hT
        clear hT
        clear q2 ka kb aW bW cA lA lB K1 R1 RX
        have cA := cell_of_block a2
        have lA := lt_of_block a2
        have lB := lt_of_block b2
        go_upto_region 7 with (at_builtin; refine wpList_append_row rfl (.tmp 39) (.tmp 43) rfl (n0 + 1) eltEnt rfl rfl R2.out (ys := es.drop n0) T.out (by have := HN0.out; rw [List.length_append, List.length_take]; simp; omega) (by rw [List.length_drop, HN0.out] <;> omega) (by omega) (by simp only [maxLen]; omega) (by omega) (by omega) ?_; intro x3 d3 w3 q3; have cA3 := cell_of_block ((q3.grown.block w.heap.size (by omega) (fun e => by have := HB2.out _ e.symm; omega)).trans a2); have fA3 := unfrozen_of_block ((q3.grown.block w.heap.size (by omega) (fun e => by have := HB2.out _ e.symm; omega)).trans a2))
        obtain ⟨V, hV⟩ : ∃ V, V = w3.setCell ⟨w.heap.size, 0, none⟩ (.slice x3 (n0 + 1) d3) := ⟨_, rfl⟩
        have a3 := (q3.grown.block w.heap.size (by omega) (fun e => by have := HB2.out _ e.symm; omega)).trans a2
        have b3 := (q3.grown.block (w.heap.size + 1) (by omega) (fun e => by have := HB2.out _ e.symm; omega)).trans b2
        have aV := block_setCell (i := 0) a3 (.slice x3 (n0 + 1) d3)
        have bV := (Below.heap_setCell w3 ⟨w.heap.size, 0, none⟩ (.slice x3 (n0 + 1) d3) _ (by simp)).trans b3
        have RE := Lib.hid (q3.row.setOther (p := ⟨w.heap.size, 0, none⟩) (by simp; omega) (.slice x3 (n0 + 1) d3))
        have KV := Lib.hid (Below.setCell (K2.out.grown q3.grown (by omega) (fun g hg => by have := HB2.out _ hg; omega)) (p := ⟨w.heap.size, 0, none⟩) (Nat.le_refl _) (.slice x3 (n0 + 1) d3))
        skip
        rw [← hV] at aV bV RE KV ⊢
        simp only [List.setIfInBounds_toArray, List.set] at aV
        clear hV q3 a3 b3 a2 b2 K2 cA3 fA3 HB2 cA lA lB
        have cA := cell_of_block aV
        have cB := cell_of_block bV
        have fB := unfrozen_of_block bV
        have lA := lt_of_block aV
        have lB := lt_of_block bV
        go_wp2_with fail
        refine bodyPost_ret (v := .agg #[.slice x3 (n0 + 1) d3, .slice a1 16 c1, .slice a2 n2 c2]) (by simp [results, Try.results123, go_sem, cB]) rfl ?_
        have hre := RE.out
        have KV' := KV.out
        rw [HJ.out]
        refine ⟨x3, d3, rfl, O.out.newE ?_ (B' := w.heap.size + 2) ?_ (by omega) hB, ?_⟩
        · exact (by repeat' (first | with_reducible exact Below.refl _ _ | with_reducible assumption | with_reducible refine Below.alloc ?_ ?_ _ | with_reducible refine Below.drew ?_ | with_reducible refine Below.setCell ?_ ?_ _ | omega | (simp; omega) | (simp; done)))
        · exact ((((hre.low (by omega)).setOther (by simp) _).setOther (by simp) _).setOther (by simp) _)
        · exact (by repeat' (first | with_reducible exact Below.refl _ _ | with_reducible assumption | with_reducible refine Below.alloc ?_ ?_ _ | with_reducible refine Below.drew ?_ | with_reducible refine Below.setCell ?_ ?_ _ | omega | (simp; omega) | (simp; done)))
set_option maxRecDepth 100000 in
set_option maxHeartbeats 8000000 in
theorem l2Join_n {B : Nat} {X : Nat → Prop} (fl la : List Int) (c : Int)  (n2 : Nat) (a1 a2 : Option Addr) (c1 c2 : Nat) (w : World) (h : OwnX X w B none 0 a1 c1 a2 c2 ⟨[], fl, la⟩) (hB : B ≤ w.heap.size) (hc : 1 ≤ c ∧ c ≤ 4) :
    Calls Try.prog 123 #[.agg #[.slice none 0 0, .slice a1 16 c1, .slice a2 n2 c2], .int .i64 c] w (JoinOut X B 0 n2 a1 a2 c1 c2 (joinE [] c) fl la w) := by
  have O := Lib.hid h
  clear h
  have hw1 : IntKind.i64.wrap (c - 1) = c - 1 := IntWalk.i64_in _ ⟨by omega, by omega⟩
  go_enter Try.func123, Try.ntmps123
  go_upto_region 1 with fail
  obtain ⟨W, hW, sW, aW, bW, kW⟩ := blocks2 w (.cells #[.slice none 0 0, .slice a1 16 c1, .slice a2 n2 c2] 46) (.cells #[.slice none 0 0, .slice none 0 0, .slice none 0 0] 46)
  rw [← hW]
  clear hW
  have HA := Lib.hid aW
  have HB := Lib.hid bW
  have HKW := Lib.hid kW
  have hl0 : w.heap.size < W.heap.size := by omega
  have hl1 : w.heap.size + 1 < W.heap.size := by omega
  clear aW bW kW sW
  go_wp2_with fail
  go_loopw [5] (fun i wr => i = .int .i64 0 ∧ Below W.heap.size W wr) (fun i _ => 0)
  case atStart => exact ⟨rfl, Below.refl _ _⟩
  case round =>
    obtain ⟨rfl, hbel⟩ := hrel
    have aW := carryN hbel HA.out
    have bW := carryN hbel HB.out
    have cA := cell_of_block aW
    have KW := Lib.hid (HKW.out.trans (hbel.mono (by omega)))
    have HJ := Lib.hid (joinE_at (es := []) (c := c) (k := 0) (Nat.le_refl _) (fun j hj => absurd hj (Nat.not_lt_zero j)) (fun h => absurd h (Nat.lt_irrefl 0)))
    have hsr := hbel.size
    have lA : w.heap.size < wr.heap.size := by omega
    have lB : w.heap.size + 1 < wr.heap.size := by omega
    go_upto_region 5 with (at_builtin; refine wpList_append_new (wr.heap.size + 1) rfl (.tmp 24) (.tmp 28) rfl eltEnt rfl rfl (ys := ([] : List Rq).take 0) (by simp only [List.take_nil]; exact RowsAt.empty _ _ _ _) (rfl) (by simp only [maxLen]; omega) (by omega) (by simp <;> omega) ?_; intro x1 d1 w1 q1)
    have k1 := ((Below.refl wr.heap.size wr).alloc (Nat.le_refl _) (.cells #[] 92)).trans (q1.below.mono (by simp <;> omega))
    replace aW := carryN k1 aW
    replace bW := carryN k1 bW
    have K1 := Lib.hid (below_next KW.out k1)
    have R1 := Lib.hid (show Row w1 wr.heap.size 92 x1 d1 5 Rq.cs (([] : List Rq).take 0) from q1.row.low (Nat.le_succ _))
    have HB1 := Lib.hid (fun g (hg : rowBlk x1 d1 = some g) => (show wr.heap.size ≤ g from Nat.le_trans (Nat.le_succ _) (q1.row.blk hg).1))
    have s1 := k1.size
    clear q1 k1 cA lA lB KW
    have cA := cell_of_block aW
    have lA := lt_of_block aW
    have lB := lt_of_block bW
    obtain ⟨X, hX⟩ : ∃ X, X = w1.alloc (.cells #[.int .i64 c, .int .i64 (c - 1), .int .i64 (c - 1), .int .i64 3, .int .i64 0] 92) := ⟨_, rfl⟩
    have RX := Lib.hid (rowsAt_ent w1 ⟨c, c - 1, c - 1, 3, 0⟩ 92)
    go_upto_region 6 with (at_builtin; refine wpList_append_row rfl (.tmp 30) (.tmp 37) rfl (0 + 1) eltEnt rfl rfl (R1.out.alloc _) RX.out (rfl) rfl rfl (by simp only [maxLen]; omega) (by omega) (by simp; omega) ?_; intro x2 d2 w2 q2)
    clear hX X
    have s2 := q2.grown.size
    rw [World.size_alloc] at s2
    have ka := (Below.refl w1.heap.size w1).alloc (Nat.le_refl _) (.cells #[.int .i64 c, .int .i64 (c - 1), .int .i64 (c - 1), .int .i64 3, .int .i64 0] 92)
    have a2 := (q2.grown.block w.heap.size (by simp; omega) (fun e => by have := HB1.out _ e.symm; omega)).trans (carryN ka aW)
    have b2 := (q2.grown.block (w.heap.size + 1) (by simp; omega) (fun e => by have := HB1.out _ e.symm; omega)).trans (carryN ka bW)
    have kb : Below wr.heap.size w1 w2 := (ka.mono s1).grown q2.grown (by simp; omega) (fun g hg => HB1.out _ hg)
    have K2 := Lib.hid (K1.out.trans (kb.mono (by omega)))
    have R2 := Lib.hid q2.row
    have HB2 := Lib.hid (fun g (hg : rowBlk x2 d2 = some g) => (show wr.heap.size ≤ g from (q2.row.blk hg).1))
    clear q2 ka kb aW bW cA lA lB K1 R1 RX
    have cA := cell_of_block a2
    have lA := lt_of_block a2
    have lB := lt_of_block b2
    go_upto_region 7 with (at_builtin; refine wpList_append_row rfl (.tmp 39) (.tmp 43) rfl (0 + 1) eltEnt rfl rfl R2.out (ys := ([] : List Rq)) (RowsAt.empty _ _ _ _) (rfl) (rfl) (by omega) (by simp only [maxLen]; omega) (by omega) (by omega) ?_; intro x3 d3 w3 q3; have cA3 := cell_of_block ((q3.grown.block w.heap.size (by omega) (fun e => by have := HB2.out _ e.symm; omega)).trans a2); have fA3 := unfrozen_of_block ((q3.grown.block w.heap.size (by omega) (fun e => by have := HB2.out _ e.symm; omega)).trans a2))
    obtain ⟨V, hV⟩ : ∃ V, V = w3.setCell ⟨w.heap.size, 0, none⟩ (.slice x3 (0 + 1) d3) := ⟨_, rfl⟩
    have a3 := (q3.grown.block w.heap.size (by omega) (fun e => by have := HB2.out _ e.symm; omega)).trans a2
    have b3 := (q3.grown.block (w.heap.size + 1) (by omega) (fun e => by have := HB2.out _ e.symm; omega)).trans b2
    have aV := block_setCell (i := 0) a3 (.slice x3 (0 + 1) d3)
    have bV := (Below.heap_setCell w3 ⟨w.heap.size, 0, none⟩ (.slice x3 (0 + 1) d3) _ (by simp)).trans b3
    have RE := Lib.hid (q3.row.setOther (p := ⟨w.heap.size, 0, none⟩) (by simp; omega) (.slice x3 (0 + 1) d3))
    have KV := Lib.hid (Below.setCell (K2.out.grown q3.grown (by omega) (fun g hg => by have := HB2.out _ hg; omega)) (p := ⟨w.heap.size, 0, none⟩) (Nat.le_refl _) (.slice x3 (0 + 1) d3))
    simp only [Nat.zero_add] at aV bV RE KV hV
    rw [← hV] at aV bV RE KV ⊢
    simp only [List.setIfInBounds_toArray, List.set] at aV
    clear hV q3 a3 b3 a2 b2 K2 cA3 fA3 HB2 cA lA lB
    have cA := cell_of_block aV
    have cB := cell_of_block bV
    have fB := unfrozen_of_block bV
    have lA := lt_of_block aV
    have lB := lt_of_block bV
    go_wp2_with fail
    refine bodyPost_ret (v := .agg #[.slice x3 (1) d3, .slice a1 16 c1, .slice a2 n2 c2]) (by simp [results, Try.results123, go_sem, cB]) rfl ?_
    have hre := RE.out
    have KV' := KV.out
    rw [HJ.out]
    refine ⟨x3, d3, rfl, O.out.newE ?_ (B' := w.heap.size + 2) ?_ (by omega) hB, ?_⟩
    · exact (by repeat' (first | with_reducible exact Below.refl _ _ | with_reducible assumption | with_reducible refine Below.alloc ?_ ?_ _ | with_reducible refine Below.drew ?_ | with_reducible refine Below.setCell ?_ ?_ _ | omega | (simp; omega) | (simp; done)))
    · exact ((((hre.low (by omega)).setOther (by simp) _).setOther (by simp) _).setOther (by simp) _)
    · exact (by repeat' (first | with_reducible exact Below.refl _ _ | with_reducible assumption | with_reducible refine Below.alloc ?_ ?_ _ | with_reducible refine Below.drew ?_ | with_reducible refine Below.setCell ?_ ?_ _ | omega | (simp; omega) | (simp; done)))
set_option maxRecDepth 100000 in
set_option maxHeartbeats 8000000 in
theorem l2Join_s {B : Nat} {X : Nat → Prop} (fl la : List Int) (c : Int) (ad : Addr) (n2 : Nat) (a1 a2 : Option Addr) (c1 c2 : Nat) (w : World) (h : OwnX X w B (some ad) 0 a1 c1 a2 c2 ⟨[], fl, la⟩) (hB : B ≤ w.heap.size) (hc : 1 ≤ c ∧ c ≤ 4) :
    Calls Try.prog 123 #[.agg #[.slice (some ad) 0 0, .slice a1 16 c1, .slice a2 n2 c2], .int .i64 c] w (JoinOut X B 0 n2 a1 a2 c1 c2 (joinE [] c) fl la w) := by
  have O := Lib.hid h
  clear h
  have hw1 : IntKind.i64.wrap (c - 1) = c - 1 := IntWalk.i64_in _ ⟨by omega, by omega⟩
  go_enter Try.func123, Try.ntmps123
  go_upto_region 1 with fail
  obtain ⟨W, hW, sW, aW, bW, kW⟩ := blocks2 w (.cells #[.slice (some ad) 0 0, .slice a1 16 c1, .slice a2 n2 c2] 46) (.cells #[.slice none 0 0, .slice none 0 0, .slice none 0 0] 46)
  rw [← hW]
  clear hW
  have HA := Lib.hid aW
  have HB := Lib.hid bW
  have HKW := Lib.hid kW
  have hl0 : w.heap.size < W.heap.size := by omega
  have hl1 : w.heap.size + 1 < W.heap.size := by omega
  clear aW bW kW sW
  go_wp2_with fail
  go_loopw [5] (fun i wr => i = .int .i64 0 ∧ Below W.heap.size W wr) (fun i _ => 0)
  case atStart => exact ⟨rfl, Below.refl _ _⟩
  case round =>
    obtain ⟨rfl, hbel⟩ := hrel
    have aW := carryN hbel HA.out
    have bW := carryN hbel HB.out
    have cA := cell_of_block aW
    have KW := Lib.hid (HKW.out.trans (hbel.mono (by omega)))
    have HJ := Lib.hid (joinE_at (es := []) (c := c) (k := 0) (Nat.le_refl _) (fun j hj => absurd hj (Nat.not_lt_zero j)) (fun h => absurd h (Nat.lt_irrefl 0)))
    have hsr := hbel.size
    have lA : w.heap.size < wr.heap.size := by omega
    have lB : w.heap.size + 1 < wr.heap.size := by omega
    go_upto_region 5 with (at_builtin; refine wpList_append_new (wr.heap.size + 1) rfl (.tmp 24) (.tmp 28) rfl eltEnt rfl rfl (ys := ([] : List Rq).take 0) (by simp only [List.take_nil]; exact RowsAt.empty _ _ _ _) (rfl) (by simp only [maxLen]; omega) (by omega) (by simp <;> omega) ?_; intro x1 d1 w1 q1)
    have k1 := ((Below.refl wr.heap.size wr).alloc (Nat.le_refl _) (.cells #[] 92)).trans (q1.below.mono (by simp <;> omega))
    replace aW := carryN k1 aW
    replace bW := carryN k1 bW
    have K1 := Lib.hid (below_next KW.out k1)
    have R1 := Lib.hid (show Row w1 wr.heap.size 92 x1 d1 5 Rq.cs (([] : List Rq).take 0) from q1.row.low (Nat.le_succ _))
    have HB1 := Lib.hid (fun g (hg : rowBlk x1 d1 = some g) => (show wr.heap.size ≤ g from Nat.le_trans (Nat.le_succ _) (q1.row.blk hg).1))
    have s1 := k1.size
    clear q1 k1 cA lA lB KW
    have cA := cell_of_block aW
    have lA := lt_of_block aW
    have lB := lt_of_block bW
    obtain ⟨X, hX⟩ : ∃ X, X = w1.alloc (.cells #[.int .i64 c, .int .i64 (c - 1), .int .i64 (c - 1), .int .i64 3, .int .i64 0] 92) := ⟨_, rfl⟩
    have RX := Lib.hid (rowsAt_ent w1 ⟨c, c - 1, c - 1, 3, 0⟩ 92)
    go_upto_region 6 with (at_builtin; refine wpList_append_row rfl (.tmp 30) (.tmp 37) rfl (0 + 1) eltEnt rfl rfl (R1.out.alloc _) RX.out (rfl) rfl rfl (by simp only [maxLen]; omega) (by omega) (by simp; omega) ?_; intro x2 d2 w2 q2)
    clear hX X
    have s2 := q2.grown.size
    rw [World.size_alloc] at s2
    have ka := (Below.refl w1.heap.size w1).alloc (Nat.le_refl _) (.cells #[.int .i64 c, .int .i64 (c - 1), .int .i64 (c - 1), .int .i64 3, .int .i64 0] 92)
    have a2 := (q2.grown.block w.heap.size (by simp; omega) (fun e => by have := HB1.out _ e.symm; omega)).trans (carryN ka aW)
    have b2 := (q2.grown.block (w.heap.size + 1) (by simp; omega) (fun e => by have := HB1.out _ e.symm; omega)).trans (carryN ka bW)
    have kb : Below wr.heap.size w1 w2 := (ka.mono s1).grown q2.grown (by simp; omega) (fun g hg => HB1.out _ hg)
    have K2 := Lib.hid (K1.out.trans (kb.mono (by omega)))
    have R2 := Lib.hid q2.row
    have HB2 := Lib.hid (fun g (hg : rowBlk x2 d2 = some g) => (show wr.heap.size ≤ g from (q2.row.blk hg).1))
    clear q2 ka kb aW bW cA lA lB K1 R1 RX
    have cA := cell_of_block a2
    have lA := lt_of_block a2
    have lB := lt_of_block b2
    go_upto_region 7 with (at_builtin; refine wpList_append_row rfl (.tmp 39) (.tmp 43) rfl (0 + 1) eltEnt rfl rfl R2.out (ys := ([] : List Rq)) (RowsAt.empty _ _ _ _) (rfl) (rfl) (by omega) (by simp only [maxLen]; omega) (by omega) (by omega) ?_; intro x3 d3 w3 q3; have cA3 := cell_of_block ((q3.grown.block w.heap.size (by omega) (fun e => by have := HB2.out _ e.symm; omega)).trans a2); have fA3 := unfrozen_of_block ((q3.grown.block w.heap.size (by omega) (fun e => by have := HB2.out _ e.symm; omega)).trans a2))
    obtain ⟨V, hV⟩ : ∃ V, V = w3.setCell ⟨w.heap.size, 0, none⟩ (.slice x3 (0 + 1) d3) := ⟨_, rfl⟩
    have a3 := (q3.grown.block w.heap.size (by omega) (fun e => by have := HB2.out _ e.symm; omega)).trans a2
    have b3 := (q3.grown.block (w.heap.size + 1) (by omega) (fun e => by have := HB2.out _ e.symm; omega)).trans b2
    have aV := block_setCell (i := 0) a3 (.slice x3 (0 + 1) d3)
    have bV := (Below.heap_setCell w3 ⟨w.heap.size, 0, none⟩ (.slice x3 (0 + 1) d3) _ (by simp)).trans b3
    have RE := Lib.hid (q3.row.setOther (p := ⟨w.heap.size, 0, none⟩) (by simp; omega) (.slice x3 (0 + 1) d3))
    have KV := Lib.hid (Below.setCell (K2.out.grown q3.grown (by omega) (fun g hg => by have := HB2.out _ hg; omega)) (p := ⟨w.heap.size, 0, none⟩) (Nat.le_refl _) (.slice x3 (0 + 1) d3))
    simp only [Nat.zero_add] at aV bV RE KV hV
    rw [← hV] at aV bV RE KV ⊢
    simp only [List.setIfInBounds_toArray, List.set] at aV
    clear hV q3 a3 b3 a2 b2 K2 cA3 fA3 HB2 cA lA lB
    have cA := cell_of_block aV
    have cB := cell_of_block bV
    have fB := unfrozen_of_block bV
    have lA := lt_of_block aV
    have lB := lt_of_block bV
    go_wp2_with fail
    refine bodyPost_ret (v := .agg #[.slice x3 (1) d3, .slice a1 16 c1, .slice a2 n2 c2]) (by simp [results, Try.results123, go_sem, cB]) rfl ?_
    have hre := RE.out
    have KV' := KV.out
    rw [HJ.out]
    refine ⟨x3, d3, rfl, O.out.newE ?_ (B' := w.heap.size + 2) ?_ (by omega) hB, ?_⟩
    · exact (by repeat' (first | with_reducible exact Below.refl _ _ | with_reducible assumption | with_reducible refine Below.alloc ?_ ?_ _ | with_reducible refine Below.drew ?_ | with_reducible refine Below.setCell ?_ ?_ _ | omega | (simp; omega) | (simp; done)))
    · exact ((((hre.low (by omega)).setOther (by simp) _).setOther (by simp) _).setOther (by simp) _)
    · exact (by repeat' (first | with_reducible exact Below.refl _ _ | with_reducible assumption | with_reducible refine Below.alloc ?_ ?_ _ | with_reducible refine Below.drew ?_ | with_reducible refine Below.setCell ?_ ?_ _ | omega | (simp; omega) | (simp; done)))
/-- Of whatever rows. -/
theorem l2Join_c {B : Nat} {X : Nat → Prop} (es : List Rq) (fl la : List Int) (c : Int) (n0 n2 c0 : Nat) (a0 a1 a2 : Option Addr) (c1 c2 : Nat) (w : World) (h : OwnX X w B a0 c0 a1 c1 a2 c2 ⟨es, fl, la⟩) (hn0 : es.length = n0) (h4 : n0 ≤ 4) (hB : B ≤ w.heap.size) (hc : 1 ≤ c ∧ c ≤ 4) :
    Calls Try.prog 123 #[.agg #[.slice a0 n0 c0, .slice a1 16 c1, .slice a2 n2 c2], .int .i64 c] w (JoinOut X B n0 n2 a1 a2 c1 c2 (joinE es c) fl la w) := by
  by_cases hc0 : 0 < c0
  · obtain ⟨g, cur, rfl, -⟩ := h.e.own hc0
    exact l2Join_b es fl la c g n0 c0 hc0 n2 a1 a2 c1 c2 w h hn0 h4 hB hc
  · have h1 := h.e.len
    simp only at h1
    have e1 : es = [] := List.eq_nil_of_length_eq_zero (by omega)
    have e2 : n0 = 0 := by omega
    have e3 : c0 = 0 := by omega
    subst e1 e2 e3
    cases a0 with
    | none => exact l2Join_n fl la c n2 a1 a2 c1 c2 w h hB hc
    | some ad => exact l2Join_s fl la c ad n2 a1 a2 c1 c2 w h hB hc
end Go.Proofs.Ytofedboeggdkaaa

/-! The reference's l2Do, of a game that is ok; no other condition. -/
namespace Go.Proofs.Ytofedboeggdkaaa
open Go.RowKit Go.Joins

set_option maxRecDepth 100000 in
set_option maxHeartbeats 8000000 in
theorem l2Do_none {B : Nat} {X : Nat → Prop} (es : List Rq) (fl la : List Int) (n0 : Nat) (a0 a1 a2 : Option Addr) (c0 c1 c2 : Nat) (c n o x y : Int) (w : World) (h : OwnX X w B a0 c0 a1 c1 a2 c2 ⟨es, fl, la⟩) (hn0 : es.length = n0) (hn1 : fl.length = 16) (hn2 : la.length = 4) (h4 : n0 ≤ 4) (hB : B ≤ w.heap.size) (hnone : noneB c n o x y = true) :
    Calls Try.prog 96 #[.agg #[.slice a0 n0 c0, .slice a1 16 c1, .slice a2 4 c2], .agg #[.int .i64 c, .int .i64 n, .int .i64 o, .int .i64 x, .int .i64 y]] w (RetX X B ⟨es, fl, la⟩ 2 w) := by
  have O := Lib.hid h
  have HN0 := Lib.hid hn0
  have HN1 := Lib.hid hn1
  have HN2 := Lib.hid hn2
  have hle2 : 4 ≤ c2 := by have := h.l.len; simp only at this; omega
  clear h hn0 hn1 hn2
  go_enter Try.func96, Try.ntmps96
  go_upto_region 1 with fail
  obtain ⟨W, hW, sW, aW, qW, bW, kW⟩ := blocks3 w (.cells #[.slice a0 n0 c0, .slice a1 16 c1, .slice a2 4 c2] 46) (.cells #[.int .i64 c, .int .i64 n, .int .i64 o, .int .i64 x, .int .i64 y] 34) (.cells #[.slice none 0 0, .slice none 0 0, .slice none 0 0] 46)
  rw [← hW]
  clear hW sW
  have KX := Lib.hid kW
  have cQ := cell_of_block qW
  clear kW
  go_wp2_with fail
  refine (l1None_c c n o x y W).mono ?_
  rintro e w1 ⟨rfl, k1⟩
  rw [hnone]
  replace aW := carryN k1 aW
  replace bW := carryN k1 bW
  replace qW := carryN k1 qW
  replace KX := Lib.hid (below_next KX.out k1)
  clear k1 cQ
  have cA := cell_of_block aW
  have cQ := cell_of_block qW
  have cB := cell_of_block bW
  have fB := unfrozen_of_block bW
  have lA := lt_of_block aW
  have lB := lt_of_block bW
  have lQ := lt_of_block qW
  go_wp2_with fail
  refine bodyPost_ret (v := .tuple #[.agg #[.slice a0 n0 c0, .slice a1 16 c1, .slice a2 4 c2], .int .i64 2]) (by simp [results, Try.results96, go_sem, cB]) rfl ?_
  have KX' := KX.out
  exact ⟨_, rfl, (O.out.below (by repeat' (first | with_reducible exact Below.refl _ _ | with_reducible assumption | with_reducible refine Below.alloc ?_ ?_ _ | with_reducible refine Below.drew ?_ | with_reducible refine Below.setCell ?_ ?_ _ | omega | (simp; omega) | (simp; done)))).gmV HN0.out HN1.out HN2.out, (by repeat' (first | with_reducible exact Below.refl _ _ | with_reducible assumption | with_reducible refine Below.alloc ?_ ?_ _ | with_reducible refine Below.drew ?_ | with_reducible refine Below.setCell ?_ ?_ _ | omega | (simp; omega) | (simp; done)))⟩
set_option maxRecDepth 100000 in
set_option maxHeartbeats 8000000 in
theorem l2Do_old {B : Nat} {X : Nat → Prop} (es : List Rq) (fl la : List Int) (n0 : Nat) (a0 a1 a2 : Option Addr) (c0 c1 c2 : Nat) (c n o x y : Int) (w : World) (h : OwnX X w B a0 c0 a1 c1 a2 c2 ⟨es, fl, la⟩) (hn0 : es.length = n0) (hn1 : fl.length = 16) (hn2 : la.length = 4) (h4 : n0 ≤ 4) (hB : B ≤ w.heap.size) (hc : 1 ≤ c ∧ c ≤ 4) (hn : 1 ≤ n ∧ n ≤ 30) (hnone : noneB c n o x y = false) (hold : n ≤ la.getD (c - 1).toNat 0) :
    Calls Try.prog 96 #[.agg #[.slice a0 n0 c0, .slice a1 16 c1, .slice a2 4 c2], .agg #[.int .i64 c, .int .i64 n, .int .i64 o, .int .i64 x, .int .i64 y]] w (RetX X B ⟨es, fl, la⟩ 3 w) := by
  have O := Lib.hid h
  have HN0 := Lib.hid hn0
  have HN1 := Lib.hid hn1
  have HN2 := Lib.hid hn2
  have hle2 : 4 ≤ c2 := by have := h.l.len; simp only at this; omega
  clear h hn0 hn1 hn2
  go_enter Try.func96, Try.ntmps96
  go_upto_region 1 with fail
  obtain ⟨W, hW, sW, aW, qW, bW, kW⟩ := blocks3 w (.cells #[.slice a0 n0 c0, .slice a1 16 c1, .slice a2 4 c2] 46) (.cells #[.int .i64 c, .int .i64 n, .int .i64 o, .int .i64 x, .int .i64 y] 34) (.cells #[.slice none 0 0, .slice none 0 0, .slice none 0 0] 46)
  rw [← hW]
  clear hW sW
  have KX := Lib.hid kW
  have cQ := cell_of_block qW
  clear kW
  go_wp2_with fail
  refine (l1None_c c n o x y W).mono ?_
  rintro e w1 ⟨rfl, k1⟩
  rw [hnone]
  replace aW := carryN k1 aW
  replace bW := carryN k1 bW
  replace qW := carryN k1 qW
  replace KX := Lib.hid (below_next KX.out k1)
  clear k1 cQ
  obtain ⟨i, hi, hi4⟩ : ∃ i : Nat, c - 1 = (i : Int) ∧ i < 4 := ⟨(c - 1).toNat, by omega, by omega⟩
  have hci : (c - 1).toNat = i := by omega
  have hw1 : IntKind.i64.wrap (c - 1) = c - 1 := IntWalk.i64_in _ ⟨by omega, by omega⟩
  have hi0 : (0 : Int) ≤ (i : Int) := by omega
  have hi1 : (i : Int) < 4 := by omega
  obtain ⟨f0, hf0, -, hf0l, ef, -, hrf0⟩ := (O.out.below KX.out).l.intAt (i := i) (by simp only; rw [HN2.out]; exact hi4)
  simp only at ef
  have hiz : i < la.length := by rw [HN2.out]; exact hi4
  rw [hci, List.getD_eq_getElem?_getD, List.getElem?_eq_getElem hiz, Option.getD_some] at hold
  have HCI := Lib.hid hci
  subst hf0
  generalize hlv : la[i] = v at *
  have e1 := cell_regrown ef
  have ga := cellRe aW
  have gq := cellRe qW
  have hd : decide (n ≤ v) = true := by simp; omega
  clear hci ef hlv
  have cQ := cell_of_block qW
  go_wp2_with fail
  refine wp_region_quiet_below (by kernel_rfl) (by kernel_rfl) ?_
  repeat (go_big_quiet_step (fail))
  refine wpQuiet_nil ?_
  intro _ hw'
  obtain ⟨⟨dq, osq⟩, hw''⟩ := hw'
  subst hw''
  have hkb := below_regrown w1 dq osq
  replace aW := carryN hkb aW
  replace bW := carryN hkb bW
  replace qW := carryN hkb qW
  replace KX := Lib.hid (below_next KX.out hkb)
  clear hkb e1 ga gq cQ
  generalize Sort.grow (redrawn w1 dq) osq = X at *
  have cA := cell_of_block aW
  have cQ := cell_of_block qW
  have cB := cell_of_block bW
  have fB := unfrozen_of_block bW
  have lA := lt_of_block aW
  have lB := lt_of_block bW
  have lQ := lt_of_block qW
  go_wp2_with fail
  refine bodyPost_ret (v := .tuple #[.agg #[.slice a0 n0 c0, .slice a1 16 c1, .slice (some ⟨f0, 0, none⟩) 4 c2], .int .i64 3]) (by simp [results, Try.results96, go_sem, cB]) rfl ?_
  have KX' := KX.out
  exact ⟨_, rfl, (O.out.below (by repeat' (first | with_reducible exact Below.refl _ _ | with_reducible assumption | with_reducible refine Below.alloc ?_ ?_ _ | with_reducible refine Below.drew ?_ | with_reducible refine Below.setCell ?_ ?_ _ | omega | (simp; omega) | (simp; done)))).gmV HN0.out HN1.out HN2.out, (by repeat' (first | with_reducible exact Below.refl _ _ | with_reducible assumption | with_reducible refine Below.alloc ?_ ?_ _ | with_reducible refine Below.drew ?_ | with_reducible refine Below.setCell ?_ ?_ _ | omega | (simp; omega) | (simp; done)))⟩
set_option maxRecDepth 100000 in
set_option maxHeartbeats 8000000 in
theorem l2Do_there {B : Nat} {X : Nat → Prop} (es : List Rq) (fl la : List Int) (n0 : Nat) (a0 a1 a2 : Option Addr) (c0 c1 c2 : Nat) (c n o x y : Int) (w : World) (h : OwnX X w B a0 c0 a1 c1 a2 c2 ⟨es, fl, la⟩) (hn0 : es.length = n0) (hn1 : fl.length = 16) (hn2 : la.length = 4) (h4 : n0 ≤ 4) (hB : B ≤ w.heap.size) (hc : 1 ≤ c ∧ c ≤ 4) (hn : 1 ≤ n ∧ n ≤ 30) (hnone : noneB c n o x y = false) (hold : ¬ n ≤ la.getD (c - 1).toNat 0) (k : Nat) (hfig : figAt es c = some k) (ho1 : o = 1) :
    Calls Try.prog 96 #[.agg #[.slice a0 n0 c0, .slice a1 16 c1, .slice a2 4 c2], .agg #[.int .i64 c, .int .i64 n, .int .i64 o, .int .i64 x, .int .i64 y]] w (RetX X B ⟨es, fl, la.set (c - 1).toNat n⟩ 4 w) := by
  subst ho1
  have O := Lib.hid h
  have HN0 := Lib.hid hn0
  have HN1 := Lib.hid hn1
  have HN2 := Lib.hid hn2
  have hle2 : 4 ≤ c2 := by have := h.l.len; simp only at this; omega
  clear h hn0 hn1 hn2
  go_enter Try.func96, Try.ntmps96
  go_upto_region 1 with fail
  obtain ⟨W, hW, sW, aW, qW, bW, kW⟩ := blocks3 w (.cells #[.slice a0 n0 c0, .slice a1 16 c1, .slice a2 4 c2] 46) (.cells #[.int .i64 c, .int .i64 n, .int .i64 1, .int .i64 x, .int .i64 y] 34) (.cells #[.slice none 0 0, .slice none 0 0, .slice none 0 0] 46)
  rw [← hW]
  clear hW sW
  have KX := Lib.hid kW
  have cQ := cell_of_block qW
  clear kW
  go_wp2_with fail
  refine (l1None_c c n 1 x y W).mono ?_
  rintro e w1 ⟨rfl, k1⟩
  rw [hnone]
  replace aW := carryN k1 aW
  replace bW := carryN k1 bW
  replace qW := carryN k1 qW
  replace KX := Lib.hid (below_next KX.out k1)
  clear k1 cQ
  obtain ⟨i, hi, hi4⟩ : ∃ i : Nat, c - 1 = (i : Int) ∧ i < 4 := ⟨(c - 1).toNat, by omega, by omega⟩
  have hci : (c - 1).toNat = i := by omega
  have hw1 : IntKind.i64.wrap (c - 1) = c - 1 := IntWalk.i64_in _ ⟨by omega, by omega⟩
  have hi0 : (0 : Int) ≤ (i : Int) := by omega
  have hi1 : (i : Int) < 4 := by omega
  obtain ⟨f0, hf0, -, hf0l, ef, -, hrf0⟩ := (O.out.below KX.out).l.intAt (i := i) (by simp only; rw [HN2.out]; exact hi4)
  simp only at ef
  have hiz : i < la.length := by rw [HN2.out]; exact hi4
  rw [hci, List.getD_eq_getElem?_getD, List.getElem?_eq_getElem hiz, Option.getD_some] at hold
  have HCI := Lib.hid hci
  subst hf0
  generalize hlv : la[i] = v at *
  have e1 := cell_regrown ef
  have ga := cellRe aW
  have gq := cellRe qW
  have hd : decide (n ≤ v) = false := by simp; omega
  clear hci ef hlv
  have cQ := cell_of_block qW
  go_wp2_with fail
  refine wp_region_quiet_below (by kernel_rfl) (by kernel_rfl) ?_
  repeat (go_big_quiet_step (fail))
  refine wpQuiet_nil ?_
  intro _ hw'
  obtain ⟨⟨dq, osq⟩, hw''⟩ := hw'
  subst hw''
  have hkb := below_regrown w1 dq osq
  replace aW := carryN hkb aW
  replace bW := carryN hkb bW
  replace qW := carryN hkb qW
  replace KX := Lib.hid (below_next KX.out hkb)
  clear hkb e1 ga gq cQ
  generalize Sort.grow (redrawn w1 dq) osq = X at *
  have cA := cell_of_block aW
  have lA := lt_of_block aW
  have lB := lt_of_block bW
  have lQ := lt_of_block qW
  have hXs : w.heap.size ≤ X.heap.size := by omega
  have HLR := Lib.hid ((O.out.below KX.out).l.rows int_len)
  go_upto_region 6 with (at_builtin; refine wpList_append_new (X.heap.size + 1) rfl (.tmp 21) (.tmp 23) rfl eltInt rfl rfl (HLR.out.below (by repeat' (first | with_reducible exact Below.refl _ _ | with_reducible assumption | with_reducible refine Below.alloc ?_ ?_ _ | with_reducible refine Below.drew ?_ | with_reducible refine Below.setCell ?_ ?_ _ | omega | (simp; omega) | (simp; done)))) HN2.out (by simp only [maxLen]; omega) (by omega) (by simp <;> omega) ?_; intro x1 d1 w2 q1; have k1 := ((Below.refl X.heap.size X).alloc (Nat.le_refl _) (.cells #[] 3)).trans (q1.below.mono (by simp <;> omega)); have cA := cell_of_block (carryN k1 aW); have fA := unfrozen_of_block (carryN k1 aW))
  obtain ⟨Y, hY⟩ : ∃ Y, Y = w2.setCell ⟨w.heap.size, 2, none⟩ (.slice x1 4 d1) := ⟨_, rfl⟩
  have R1 := Lib.hid (show Row (w2.setCell ⟨w.heap.size, 2, none⟩ (.slice x1 4 d1)) X.heap.size 3 x1 d1 1 intR la from (q1.row.low (Nat.le_succ _)).setType (carryN k1 aW) (by decide) 2 (.slice x1 4 d1))
  have aY := block_setCell (i := 2) (carryN k1 aW) (.slice x1 4 d1)
  have bY := (Below.heap_setCell w2 ⟨w.heap.size, 2, none⟩ (.slice x1 4 d1) _ (by simp)).trans (carryN k1 bW)
  have qY := (Below.heap_setCell w2 ⟨w.heap.size, 2, none⟩ (.slice x1 4 d1) _ (by simp)).trans (carryN k1 qW)
  have KY := Lib.hid (Below.setCell (below_next KX.out k1) (p := ⟨w.heap.size, 2, none⟩) (Nat.le_refl _) (.slice x1 4 d1))
  rw [← hY] at R1 aY bY qY KY ⊢
  simp only [List.setIfInBounds_toArray, List.set] at aY
  clear hY q1 k1 cA fA aW bW qW KX HLR lA lQ
  obtain ⟨f, hf, hfB, hfl, ef, ff, hrf⟩ := R1.out.intAt (i := i) hiz
  subst hf
  have R2 := Lib.hid (R1.out.setInt (i := i) hiz n)
  have cA := cell_of_block aY
  have cQ := cell_of_block qY
  have lA := lt_of_block aY
  have lQ := lt_of_block qY
  have hfw : w.heap.size + 2 < f := by omega
  have ne_ : ¬ (w.heap.size = f) := by omega
  have ne_ : ¬ (f = w.heap.size) := by omega
  have ne_ : ¬ (w.heap.size + 1 = f) := by omega
  have ne_ : ¬ (f = w.heap.size + 1) := by omega
  go_upto_region 7 with fail
  obtain ⟨Z, hZ⟩ : ∃ Z, Z = Y.setCell ⟨f, i, none⟩ (.int .i64 n) := ⟨_, rfl⟩
  have aZ := (Below.heap_setCell Y ⟨f, i, none⟩ (.int .i64 n) w.heap.size (by simp; omega)).trans aY
  have bZ := (Below.heap_setCell Y ⟨f, i, none⟩ (.int .i64 n) (w.heap.size + 2) (by simp; omega)).trans bY
  have qZ := (Below.heap_setCell Y ⟨f, i, none⟩ (.int .i64 n) (w.heap.size + 1) (by simp; omega)).trans qY
  have KZ := Lib.hid (Below.setCell KY.out (p := ⟨f, i, none⟩) (show w.heap.size ≤ f by omega) (.int .i64 n))
  rw [← hZ] at R2 aZ bZ qZ KZ ⊢
  clear hZ aY bY qY cA cQ lA lQ lB R1 KY ef ff
  obtain ⟨ls, hls⟩ : ∃ ls, ls = la.set i n := ⟨_, rfl⟩
  have HLS := Lib.hid (show la.set (c - 1).toNat n = ls by rw [HCI.out, hls])
  have HL4 := Lib.hid (show ls.length = 4 by rw [hls, List.length_set]; exact HN2.out)
  rw [← hls] at R2
  clear hls
  have OZ := Lib.hid (O.out.newL KZ.out R2.out (by omega) hB)
  have cA := cell_of_block aZ
  have cQ := cell_of_block qZ
  go_wp2_with fail
  refine (l2At_c es c a0 a1 (some ⟨f, 0, none⟩) n0 16 4 c0 c1 d1 Z (OZ.out.e.slG five_len HN0.out)).mono ?_
  rintro e w3 ⟨rfl, k3⟩
  rw [figI_opt, hfig]
  have aW := carryN k3 aZ
  have bW := carryN k3 bZ
  have qW := carryN k3 qZ
  have KX := Lib.hid (below_next KZ.out k3)
  have OW := Lib.hid (OZ.out.below k3)
  clear k3 aZ bZ qZ KZ OZ R2 cA cQ
  have ho : optI (some k) = (k : Int) := rfl
  rw [ho]
  clear ho
  have hkk : (0 : Int) ≤ (k : Int) := by omega
  have hkd : decide ((0 : Int) ≤ (k : Int)) = true := by simp
  have hkn : ¬ (k : Int) < 0 := by omega
  have cA := cell_of_block aW
  have cQ := cell_of_block qW
  have cB := cell_of_block bW
  have fB := unfrozen_of_block bW
  have lA := lt_of_block aW
  have lB := lt_of_block bW
  have lQ := lt_of_block qW
  go_wp2_with fail
  refine bodyPost_ret (v := .tuple #[.agg #[.slice a0 n0 c0, .slice a1 16 c1, .slice (some ⟨f, 0, none⟩) 4 d1], .int .i64 4]) (by simp [results, Try.results96, go_sem, cB]) rfl ?_
  have KX' := KX.out
  rw [HLS.out]
  exact ⟨_, rfl, (OW.out.set3 bW _ _ _).gmV HN0.out HN1.out HL4.out, (by repeat' (first | with_reducible exact Below.refl _ _ | with_reducible assumption | with_reducible refine Below.alloc ?_ ?_ _ | with_reducible refine Below.drew ?_ | with_reducible refine Below.setCell ?_ ?_ _ | omega | (simp; omega) | (simp; done)))⟩
set_option maxRecDepth 100000 in
set_option maxHeartbeats 8000000 in
theorem l2Do_off {B : Nat} {X : Nat → Prop} (es : List Rq) (fl la : List Int) (n0 : Nat) (a0 a1 a2 : Option Addr) (c0 c1 c2 : Nat) (c n o x y : Int) (w : World) (h : OwnX X w B a0 c0 a1 c1 a2 c2 ⟨es, fl, la⟩) (hn0 : es.length = n0) (hn1 : fl.length = 16) (hn2 : la.length = 4) (h4 : n0 ≤ 4) (hB : B ≤ w.heap.size) (hc : 1 ≤ c ∧ c ≤ 4) (hn : 1 ≤ n ∧ n ≤ 30) (hnone : noneB c n o x y = false) (hold : ¬ n ≤ la.getD (c - 1).toNat 0) (hfig : figAt es c = none) (ho1 : ¬ o = 1) :
    Calls Try.prog 96 #[.agg #[.slice a0 n0 c0, .slice a1 16 c1, .slice a2 4 c2], .agg #[.int .i64 c, .int .i64 n, .int .i64 o, .int .i64 x, .int .i64 y]] w (RetX X B ⟨es, fl, la.set (c - 1).toNat n⟩ 5 w) := by
  have hob : (o == 1) = false := by simpa using ho1
  have O := Lib.hid h
  have HN0 := Lib.hid hn0
  have HN1 := Lib.hid hn1
  have HN2 := Lib.hid hn2
  have hle2 : 4 ≤ c2 := by have := h.l.len; simp only at this; omega
  clear h hn0 hn1 hn2
  go_enter Try.func96, Try.ntmps96
  go_upto_region 1 with fail
  obtain ⟨W, hW, sW, aW, qW, bW, kW⟩ := blocks3 w (.cells #[.slice a0 n0 c0, .slice a1 16 c1, .slice a2 4 c2] 46) (.cells #[.int .i64 c, .int .i64 n, .int .i64 o, .int .i64 x, .int .i64 y] 34) (.cells #[.slice none 0 0, .slice none 0 0, .slice none 0 0] 46)
  rw [← hW]
  clear hW sW
  have KX := Lib.hid kW
  have cQ := cell_of_block qW
  clear kW
  go_wp2_with fail
  refine (l1None_c c n o x y W).mono ?_
  rintro e w1 ⟨rfl, k1⟩
  rw [hnone]
  replace aW := carryN k1 aW
  replace bW := carryN k1 bW
  replace qW := carryN k1 qW
  replace KX := Lib.hid (below_next KX.out k1)
  clear k1 cQ
  obtain ⟨i, hi, hi4⟩ : ∃ i : Nat, c - 1 = (i : Int) ∧ i < 4 := ⟨(c - 1).toNat, by omega, by omega⟩
  have hci : (c - 1).toNat = i := by omega
  have hw1 : IntKind.i64.wrap (c - 1) = c - 1 := IntWalk.i64_in _ ⟨by omega, by omega⟩
  have hi0 : (0 : Int) ≤ (i : Int) := by omega
  have hi1 : (i : Int) < 4 := by omega
  obtain ⟨f0, hf0, -, hf0l, ef, -, hrf0⟩ := (O.out.below KX.out).l.intAt (i := i) (by simp only; rw [HN2.out]; exact hi4)
  simp only at ef
  have hiz : i < la.length := by rw [HN2.out]; exact hi4
  rw [hci, List.getD_eq_getElem?_getD, List.getElem?_eq_getElem hiz, Option.getD_some] at hold
  have HCI := Lib.hid hci
  subst hf0
  generalize hlv : la[i] = v at *
  have e1 := cell_regrown ef
  have ga := cellRe aW
  have gq := cellRe qW
  have hd : decide (n ≤ v) = false := by simp; omega
  clear hci ef hlv
  have cQ := cell_of_block qW
  go_wp2_with fail
  refine wp_region_quiet_below (by kernel_rfl) (by kernel_rfl) ?_
  repeat (go_big_quiet_step (fail))
  refine wpQuiet_nil ?_
  intro _ hw'
  obtain ⟨⟨dq, osq⟩, hw''⟩ := hw'
  subst hw''
  have hkb := below_regrown w1 dq osq
  replace aW := carryN hkb aW
  replace bW := carryN hkb bW
  replace qW := carryN hkb qW
  replace KX := Lib.hid (below_next KX.out hkb)
  clear hkb e1 ga gq cQ
  generalize Sort.grow (redrawn w1 dq) osq = X at *
  have cA := cell_of_block aW
  have lA := lt_of_block aW
  have lB := lt_of_block bW
  have lQ := lt_of_block qW
  have hXs : w.heap.size ≤ X.heap.size := by omega
  have HLR := Lib.hid ((O.out.below KX.out).l.rows int_len)
  go_upto_region 6 with (at_builtin; refine wpList_append_new (X.heap.size + 1) rfl (.tmp 21) (.tmp 23) rfl eltInt rfl rfl (HLR.out.below (by repeat' (first | with_reducible exact Below.refl _ _ | with_reducible assumption | with_reducible refine Below.alloc ?_ ?_ _ | with_reducible refine Below.drew ?_ | with_reducible refine Below.setCell ?_ ?_ _ | omega | (simp; omega) | (simp; done)))) HN2.out (by simp only [maxLen]; omega) (by omega) (by simp <;> omega) ?_; intro x1 d1 w2 q1; have k1 := ((Below.refl X.heap.size X).alloc (Nat.le_refl _) (.cells #[] 3)).trans (q1.below.mono (by simp <;> omega)); have cA := cell_of_block (carryN k1 aW); have fA := unfrozen_of_block (carryN k1 aW))
  obtain ⟨Y, hY⟩ : ∃ Y, Y = w2.setCell ⟨w.heap.size, 2, none⟩ (.slice x1 4 d1) := ⟨_, rfl⟩
  have R1 := Lib.hid (show Row (w2.setCell ⟨w.heap.size, 2, none⟩ (.slice x1 4 d1)) X.heap.size 3 x1 d1 1 intR la from (q1.row.low (Nat.le_succ _)).setType (carryN k1 aW) (by decide) 2 (.slice x1 4 d1))
  have aY := block_setCell (i := 2) (carryN k1 aW) (.slice x1 4 d1)
  have bY := (Below.heap_setCell w2 ⟨w.heap.size, 2, none⟩ (.slice x1 4 d1) _ (by simp)).trans (carryN k1 bW)
  have qY := (Below.heap_setCell w2 ⟨w.heap.size, 2, none⟩ (.slice x1 4 d1) _ (by simp)).trans (carryN k1 qW)
  have KY := Lib.hid (Below.setCell (below_next KX.out k1) (p := ⟨w.heap.size, 2, none⟩) (Nat.le_refl _) (.slice x1 4 d1))
  rw [← hY] at R1 aY bY qY KY ⊢
  simp only [List.setIfInBounds_toArray, List.set] at aY
  clear hY q1 k1 cA fA aW bW qW KX HLR lA lQ
  obtain ⟨f, hf, hfB, hfl, ef, ff, hrf⟩ := R1.out.intAt (i := i) hiz
  subst hf
  have R2 := Lib.hid (R1.out.setInt (i := i) hiz n)
  have cA := cell_of_block aY
  have cQ := cell_of_block qY
  have lA := lt_of_block aY
  have lQ := lt_of_block qY
  have hfw : w.heap.size + 2 < f := by omega
  have ne_ : ¬ (w.heap.size = f) := by omega
  have ne_ : ¬ (f = w.heap.size) := by omega
  have ne_ : ¬ (w.heap.size + 1 = f) := by omega
  have ne_ : ¬ (f = w.heap.size + 1) := by omega
  go_upto_region 7 with fail
  obtain ⟨Z, hZ⟩ : ∃ Z, Z = Y.setCell ⟨f, i, none⟩ (.int .i64 n) := ⟨_, rfl⟩
  have aZ := (Below.heap_setCell Y ⟨f, i, none⟩ (.int .i64 n) w.heap.size (by simp; omega)).trans aY
  have bZ := (Below.heap_setCell Y ⟨f, i, none⟩ (.int .i64 n) (w.heap.size + 2) (by simp; omega)).trans bY
  have qZ := (Below.heap_setCell Y ⟨f, i, none⟩ (.int .i64 n) (w.heap.size + 1) (by simp; omega)).trans qY
  have KZ := Lib.hid (Below.setCell KY.out (p := ⟨f, i, none⟩) (show w.heap.size ≤ f by omega) (.int .i64 n))
  rw [← hZ] at R2 aZ bZ qZ KZ ⊢
  clear hZ aY bY qY cA cQ lA lQ lB R1 KY ef ff
  obtain ⟨ls, hls⟩ : ∃ ls, ls = la.set i n := ⟨_, rfl⟩
  have HLS := Lib.hid (show la.set (c - 1).toNat n = ls by rw [HCI.out, hls])
  have HL4 := Lib.hid (show ls.length = 4 by rw [hls, List.length_set]; exact HN2.out)
  rw [← hls] at R2
  clear hls
  have OZ := Lib.hid (O.out.newL KZ.out R2.out (by omega) hB)
  have cA := cell_of_block aZ
  have cQ := cell_of_block qZ
  go_wp2_with fail
  refine (l2At_c es c a0 a1 (some ⟨f, 0, none⟩) n0 16 4 c0 c1 d1 Z (OZ.out.e.slG five_len HN0.out)).mono ?_
  rintro e w3 ⟨rfl, k3⟩
  rw [figI_opt, hfig]
  have aW := carryN k3 aZ
  have bW := carryN k3 bZ
  have qW := carryN k3 qZ
  have KX := Lib.hid (below_next KZ.out k3)
  have OW := Lib.hid (OZ.out.below k3)
  clear k3 aZ bZ qZ KZ OZ R2 cA cQ
  have ho : optI none = -1 := rfl
  rw [ho]
  clear ho
  have cA := cell_of_block aW
  have cQ := cell_of_block qW
  have cB := cell_of_block bW
  have fB := unfrozen_of_block bW
  have lA := lt_of_block aW
  have lB := lt_of_block bW
  have lQ := lt_of_block qW
  go_wp2_with fail
  refine bodyPost_ret (v := .tuple #[.agg #[.slice a0 n0 c0, .slice a1 16 c1, .slice (some ⟨f, 0, none⟩) 4 d1], .int .i64 5]) (by simp [results, Try.results96, go_sem, cB]) rfl ?_
  have KX' := KX.out
  rw [HLS.out]
  exact ⟨_, rfl, (OW.out.set3 bW _ _ _).gmV HN0.out HN1.out HL4.out, (by repeat' (first | with_reducible exact Below.refl _ _ | with_reducible assumption | with_reducible refine Below.alloc ?_ ?_ _ | with_reducible refine Below.drew ?_ | with_reducible refine Below.setCell ?_ ?_ _ | omega | (simp; omega) | (simp; done)))⟩
set_option maxRecDepth 100000 in
set_option maxHeartbeats 8000000 in
theorem l2Do_join {B : Nat} {X : Nat → Prop} (es : List Rq) (fl la : List Int) (n0 : Nat) (a0 a1 a2 : Option Addr) (c0 c1 c2 : Nat) (c n o x y : Int) (w : World) (h : OwnX X w B a0 c0 a1 c1 a2 c2 ⟨es, fl, la⟩) (hn0 : es.length = n0) (hn1 : fl.length = 16) (hn2 : la.length = 4) (h4 : n0 ≤ 4) (hB : B ≤ w.heap.size) (hc : 1 ≤ c ∧ c ≤ 4) (hn : 1 ≤ n ∧ n ≤ 30) (hnone : noneB c n o x y = false) (hold : ¬ n ≤ la.getD (c - 1).toNat 0) (hfig : figAt es c = none) (ho1 : o = 1) :
    Calls Try.prog 96 #[.agg #[.slice a0 n0 c0, .slice a1 16 c1, .slice a2 4 c2], .agg #[.int .i64 c, .int .i64 n, .int .i64 o, .int .i64 x, .int .i64 y]] w (RetX X B ⟨joinE es c, fl, la.set (c - 1).toNat n⟩ 0 w) := by
  subst ho1
  have O := Lib.hid h
  have HN0 := Lib.hid hn0
  have HN1 := Lib.hid hn1
  have HN2 := Lib.hid hn2
  have hle2 : 4 ≤ c2 := by have := h.l.len; simp only at this; omega
  clear h hn0 hn1 hn2
  go_enter Try.func96, Try.ntmps96
  go_upto_region 1 with fail
  obtain ⟨W, hW, sW, aW, qW, bW, kW⟩ := blocks3 w (.cells #[.slice a0 n0 c0, .slice a1 16 c1, .slice a2 4 c2] 46) (.cells #[.int .i64 c, .int .i64 n, .int .i64 1, .int .i64 x, .int .i64 y] 34) (.cells #[.slice none 0 0, .slice none 0 0, .slice none 0 0] 46)
  rw [← hW]
  clear hW sW
  have KX := Lib.hid kW
  have cQ := cell_of_block qW
  clear kW
  go_wp2_with fail
  refine (l1None_c c n 1 x y W).mono ?_
  rintro e w1 ⟨rfl, k1⟩
  rw [hnone]
  replace aW := carryN k1 aW
  replace bW := carryN k1 bW
  replace qW := carryN k1 qW
  replace KX := Lib.hid (below_next KX.out k1)
  clear k1 cQ
  obtain ⟨i, hi, hi4⟩ : ∃ i : Nat, c - 1 = (i : Int) ∧ i < 4 := ⟨(c - 1).toNat, by omega, by omega⟩
  have hci : (c - 1).toNat = i := by omega
  have hw1 : IntKind.i64.wrap (c - 1) = c - 1 := IntWalk.i64_in _ ⟨by omega, by omega⟩
  have hi0 : (0 : Int) ≤ (i : Int) := by omega
  have hi1 : (i : Int) < 4 := by omega
  obtain ⟨f0, hf0, -, hf0l, ef, -, hrf0⟩ := (O.out.below KX.out).l.intAt (i := i) (by simp only; rw [HN2.out]; exact hi4)
  simp only at ef
  have hiz : i < la.length := by rw [HN2.out]; exact hi4
  rw [hci, List.getD_eq_getElem?_getD, List.getElem?_eq_getElem hiz, Option.getD_some] at hold
  have HCI := Lib.hid hci
  subst hf0
  generalize hlv : la[i] = v at *
  have e1 := cell_regrown ef
  have ga := cellRe aW
  have gq := cellRe qW
  have hd : decide (n ≤ v) = false := by simp; omega
  clear hci ef hlv
  have cQ := cell_of_block qW
  go_wp2_with fail
  refine wp_region_quiet_below (by kernel_rfl) (by kernel_rfl) ?_
  repeat (go_big_quiet_step (fail))
  refine wpQuiet_nil ?_
  intro _ hw'
  obtain ⟨⟨dq, osq⟩, hw''⟩ := hw'
  subst hw''
  have hkb := below_regrown w1 dq osq
  replace aW := carryN hkb aW
  replace bW := carryN hkb bW
  replace qW := carryN hkb qW
  replace KX := Lib.hid (below_next KX.out hkb)
  clear hkb e1 ga gq cQ
  generalize Sort.grow (redrawn w1 dq) osq = X at *
  have cA := cell_of_block aW
  have lA := lt_of_block aW
  have lB := lt_of_block bW
  have lQ := lt_of_block qW
  have hXs : w.heap.size ≤ X.heap.size := by omega
  have HLR := Lib.hid ((O.out.below KX.out).l.rows int_len)
  go_upto_region 6 with (at_builtin; refine wpList_append_new (X.heap.size + 1) rfl (.tmp 21) (.tmp 23) rfl eltInt rfl rfl (HLR.out.below (by repeat' (first | with_reducible exact Below.refl _ _ | with_reducible assumption | with_reducible refine Below.alloc ?_ ?_ _ | with_reducible refine Below.drew ?_ | with_reducible refine Below.setCell ?_ ?_ _ | omega | (simp; omega) | (simp; done)))) HN2.out (by simp only [maxLen]; omega) (by omega) (by simp <;> omega) ?_; intro x1 d1 w2 q1; have k1 := ((Below.refl X.heap.size X).alloc (Nat.le_refl _) (.cells #[] 3)).trans (q1.below.mono (by simp <;> omega)); have cA := cell_of_block (carryN k1 aW); have fA := unfrozen_of_block (carryN k1 aW))
  obtain ⟨Y, hY⟩ : ∃ Y, Y = w2.setCell ⟨w.heap.size, 2, none⟩ (.slice x1 4 d1) := ⟨_, rfl⟩
  have R1 := Lib.hid (show Row (w2.setCell ⟨w.heap.size, 2, none⟩ (.slice x1 4 d1)) X.heap.size 3 x1 d1 1 intR la from (q1.row.low (Nat.le_succ _)).setType (carryN k1 aW) (by decide) 2 (.slice x1 4 d1))
  have aY := block_setCell (i := 2) (carryN k1 aW) (.slice x1 4 d1)
  have bY := (Below.heap_setCell w2 ⟨w.heap.size, 2, none⟩ (.slice x1 4 d1) _ (by simp)).trans (carryN k1 bW)
  have qY := (Below.heap_setCell w2 ⟨w.heap.size, 2, none⟩ (.slice x1 4 d1) _ (by simp)).trans (carryN k1 qW)
  have KY := Lib.hid (Below.setCell (below_next KX.out k1) (p := ⟨w.heap.size, 2, none⟩) (Nat.le_refl _) (.slice x1 4 d1))
  rw [← hY] at R1 aY bY qY KY ⊢
  simp only [List.setIfInBounds_toArray, List.set] at aY
  clear hY q1 k1 cA fA aW bW qW KX HLR lA lQ
  obtain ⟨f, hf, hfB, hfl, ef, ff, hrf⟩ := R1.out.intAt (i := i) hiz
  subst hf
  have R2 := Lib.hid (R1.out.setInt (i := i) hiz n)
  have cA := cell_of_block aY
  have cQ := cell_of_block qY
  have lA := lt_of_block aY
  have lQ := lt_of_block qY
  have hfw : w.heap.size + 2 < f := by omega
  have ne_ : ¬ (w.heap.size = f) := by omega
  have ne_ : ¬ (f = w.heap.size) := by omega
  have ne_ : ¬ (w.heap.size + 1 = f) := by omega
  have ne_ : ¬ (f = w.heap.size + 1) := by omega
  go_upto_region 7 with fail
  obtain ⟨Z, hZ⟩ : ∃ Z, Z = Y.setCell ⟨f, i, none⟩ (.int .i64 n) := ⟨_, rfl⟩
  have aZ := (Below.heap_setCell Y ⟨f, i, none⟩ (.int .i64 n) w.heap.size (by simp; omega)).trans aY
  have bZ := (Below.heap_setCell Y ⟨f, i, none⟩ (.int .i64 n) (w.heap.size + 2) (by simp; omega)).trans bY
  have qZ := (Below.heap_setCell Y ⟨f, i, none⟩ (.int .i64 n) (w.heap.size + 1) (by simp; omega)).trans qY
  have KZ := Lib.hid (Below.setCell KY.out (p := ⟨f, i, none⟩) (show w.heap.size ≤ f by omega) (.int .i64 n))
  rw [← hZ] at R2 aZ bZ qZ KZ ⊢
  clear hZ aY bY qY cA cQ lA lQ lB R1 KY ef ff
  obtain ⟨ls, hls⟩ : ∃ ls, ls = la.set i n := ⟨_, rfl⟩
  have HLS := Lib.hid (show la.set (c - 1).toNat n = ls by rw [HCI.out, hls])
  have HL4 := Lib.hid (show ls.length = 4 by rw [hls, List.length_set]; exact HN2.out)
  rw [← hls] at R2
  clear hls
  have OZ := Lib.hid (O.out.newL KZ.out R2.out (by omega) hB)
  have cA := cell_of_block aZ
  have cQ := cell_of_block qZ
  go_wp2_with fail
  refine (l2At_c es c a0 a1 (some ⟨f, 0, none⟩) n0 16 4 c0 c1 d1 Z (OZ.out.e.slG five_len HN0.out)).mono ?_
  rintro e w3 ⟨rfl, k3⟩
  rw [figI_opt, hfig]
  have aW := carryN k3 aZ
  have bW := carryN k3 bZ
  have qW := carryN k3 qZ
  have KX := Lib.hid (below_next KZ.out k3)
  have OW := Lib.hid (OZ.out.below k3)
  clear k3 aZ bZ qZ KZ OZ R2 cA cQ
  have ho : optI none = -1 := rfl
  rw [ho]
  clear ho
  have cA := cell_of_block aW
  have cQ := cell_of_block qW
  have cB := cell_of_block bW
  have fB := unfrozen_of_block bW
  have lA := lt_of_block aW
  have lB := lt_of_block bW
  have lQ := lt_of_block qW
  go_wp2_with fail
  refine (l2Join_c es fl ls c n0 4 c0 a0 a1 (some ⟨f, 0, none⟩) c1 d1 w3 OW.out HN0.out h4 (Nat.le_trans hB KX.out.size) hc).mono ?_
  rintro e w4 ⟨b0, d0, rfl, o4, k4⟩
  have bV := carryN k4 bW
  have KV := Lib.hid (below_next KX.out k4)
  have OF := Lib.hid (o4.set3 bV (.slice b0 (n0 + 1) d0) (.slice a1 16 c1) (.slice (some ⟨f, 0, none⟩) 4 d1))
  have KF := Lib.hid (below_set3 KV.out (show w.heap.size ≤ w.heap.size + 2 by omega) (.slice b0 (n0 + 1) d0) (.slice a1 16 c1) (.slice (some ⟨f, 0, none⟩) 4 d1))
  have HJL := Lib.hid (show (joinE es c).length = n0 + 1 by
    have happ : es.takeWhile (fun e => decide (e.c < c)) ++ es.dropWhile (fun e => decide (e.c < c)) = es := List.takeWhile_append_dropWhile
    have := congrArg List.length happ
    unfold joinE
    simp only [List.length_append, List.length_cons] at this ⊢
    have := HN0.out
    omega)
  clear o4 k4 aW bW qW cA cQ cB fB lA lB lQ KX OW
  have cB := cell_of_block bV
  have fB := unfrozen_of_block bV
  have lB := lt_of_block bV
  go_wp2_with fail
  refine bodyPost_ret (v := .tuple #[.agg #[.slice b0 (n0 + 1) d0, .slice a1 16 c1, .slice (some ⟨f, 0, none⟩) 4 d1], .int .i64 0]) (by simp [results, Try.results96, go_sem, cB]) rfl ?_
  rw [HLS.out]
  exact ⟨_, rfl, OF.out.gmV HJL.out HN1.out HL4.out, KF.out⟩
set_option maxRecDepth 100000 in
set_option maxHeartbeats 8000000 in
theorem l2Do_act {B : Nat} {X : Nat → Prop} (es : List Rq) (fl la : List Int) (n0 : Nat) (a0 a1 a2 : Option Addr) (c0 c1 c2 : Nat) (c n o x y : Int) (w : World) (h : OwnX X w B a0 c0 a1 c1 a2 c2 ⟨es, fl, la⟩) (hn0 : es.length = n0) (hn1 : fl.length = 16) (hn2 : la.length = 4) (h4 : n0 ≤ 4) (hB : B ≤ w.heap.size) (hc : 1 ≤ c ∧ c ≤ 4) (hn : 1 ≤ n ∧ n ≤ 30) (hnone : noneB c n o x y = false) (hold : ¬ n ≤ la.getD (c - 1).toNat 0) (k : Nat) (hfig : figAt es c = some k) (ho1 : o ≠ 1) (hp : Places es) (hf : ∀ n ∈ fl, 0 ≤ n ∧ n ≤ 20) (hr : okB c n o x y = true) :
    Calls Try.prog 96 #[.agg #[.slice a0 n0 c0, .slice a1 16 c1, .slice a2 4 c2], .agg #[.int .i64 c, .int .i64 n, .int .i64 o, .int .i64 x, .int .i64 y]] w (RetX X B (actG ⟨es, fl, la.set (c - 1).toNat n⟩ k ⟨c, n, o, x, y⟩).1 (actG ⟨es, fl, la.set (c - 1).toNat n⟩ k ⟨c, n, o, x, y⟩).2 w) := by
  have hob : (o == 1) = false := by simpa using ho1
  have HP := Lib.hid hp
  have HF := Lib.hid hf
  have HR := Lib.hid hr
  have HO1 := Lib.hid ho1
  clear hp hf hr
  have O := Lib.hid h
  have HN0 := Lib.hid hn0
  have HN1 := Lib.hid hn1
  have HN2 := Lib.hid hn2
  have hle2 : 4 ≤ c2 := by have := h.l.len; simp only at this; omega
  clear h hn0 hn1 hn2
  go_enter Try.func96, Try.ntmps96
  go_upto_region 1 with fail
  obtain ⟨W, hW, sW, aW, qW, bW, kW⟩ := blocks3 w (.cells #[.slice a0 n0 c0, .slice a1 16 c1, .slice a2 4 c2] 46) (.cells #[.int .i64 c, .int .i64 n, .int .i64 o, .int .i64 x, .int .i64 y] 34) (.cells #[.slice none 0 0, .slice none 0 0, .slice none 0 0] 46)
  rw [← hW]
  clear hW sW
  have KX := Lib.hid kW
  have cQ := cell_of_block qW
  clear kW
  go_wp2_with fail
  refine (l1None_c c n o x y W).mono ?_
  rintro e w1 ⟨rfl, k1⟩
  rw [hnone]
  replace aW := carryN k1 aW
  replace bW := carryN k1 bW
  replace qW := carryN k1 qW
  replace KX := Lib.hid (below_next KX.out k1)
  clear k1 cQ
  obtain ⟨i, hi, hi4⟩ : ∃ i : Nat, c - 1 = (i : Int) ∧ i < 4 := ⟨(c - 1).toNat, by omega, by omega⟩
  have hci : (c - 1).toNat = i := by omega
  have hw1 : IntKind.i64.wrap (c - 1) = c - 1 := IntWalk.i64_in _ ⟨by omega, by omega⟩
  have hi0 : (0 : Int) ≤ (i : Int) := by omega
  have hi1 : (i : Int) < 4 := by omega
  obtain ⟨f0, hf0, -, hf0l, ef, -, hrf0⟩ := (O.out.below KX.out).l.intAt (i := i) (by simp only; rw [HN2.out]; exact hi4)
  simp only at ef
  have hiz : i < la.length := by rw [HN2.out]; exact hi4
  rw [hci, List.getD_eq_getElem?_getD, List.getElem?_eq_getElem hiz, Option.getD_some] at hold
  have HCI := Lib.hid hci
  subst hf0
  generalize hlv : la[i] = v at *
  have e1 := cell_regrown ef
  have ga := cellRe aW
  have gq := cellRe qW
  have hd : decide (n ≤ v) = false := by simp; omega
  clear hci ef hlv
  have cQ := cell_of_block qW
  go_wp2_with fail
  refine wp_region_quiet_below (by kernel_rfl) (by kernel_rfl) ?_
  repeat (go_big_quiet_step (fail))
  refine wpQuiet_nil ?_
  intro _ hw'
  obtain ⟨⟨dq, osq⟩, hw''⟩ := hw'
  subst hw''
  have hkb := below_regrown w1 dq osq
  replace aW := carryN hkb aW
  replace bW := carryN hkb bW
  replace qW := carryN hkb qW
  replace KX := Lib.hid (below_next KX.out hkb)
  clear hkb e1 ga gq cQ
  generalize Sort.grow (redrawn w1 dq) osq = X at *
  have cA := cell_of_block aW
  have lA := lt_of_block aW
  have lB := lt_of_block bW
  have lQ := lt_of_block qW
  have hXs : w.heap.size ≤ X.heap.size := by omega
  have HLR := Lib.hid ((O.out.below KX.out).l.rows int_len)
  go_upto_region 6 with (at_builtin; refine wpList_append_new (X.heap.size + 1) rfl (.tmp 21) (.tmp 23) rfl eltInt rfl rfl (HLR.out.below (by repeat' (first | with_reducible exact Below.refl _ _ | with_reducible assumption | with_reducible refine Below.alloc ?_ ?_ _ | with_reducible refine Below.drew ?_ | with_reducible refine Below.setCell ?_ ?_ _ | omega | (simp; omega) | (simp; done)))) HN2.out (by simp only [maxLen]; omega) (by omega) (by simp <;> omega) ?_; intro x1 d1 w2 q1; have k1 := ((Below.refl X.heap.size X).alloc (Nat.le_refl _) (.cells #[] 3)).trans (q1.below.mono (by simp <;> omega)); have cA := cell_of_block (carryN k1 aW); have fA := unfrozen_of_block (carryN k1 aW))
  obtain ⟨Y, hY⟩ : ∃ Y, Y = w2.setCell ⟨w.heap.size, 2, none⟩ (.slice x1 4 d1) := ⟨_, rfl⟩
  have R1 := Lib.hid (show Row (w2.setCell ⟨w.heap.size, 2, none⟩ (.slice x1 4 d1)) X.heap.size 3 x1 d1 1 intR la from (q1.row.low (Nat.le_succ _)).setType (carryN k1 aW) (by decide) 2 (.slice x1 4 d1))
  have aY := block_setCell (i := 2) (carryN k1 aW) (.slice x1 4 d1)
  have bY := (Below.heap_setCell w2 ⟨w.heap.size, 2, none⟩ (.slice x1 4 d1) _ (by simp)).trans (carryN k1 bW)
  have qY := (Below.heap_setCell w2 ⟨w.heap.size, 2, none⟩ (.slice x1 4 d1) _ (by simp)).trans (carryN k1 qW)
  have KY := Lib.hid (Below.setCell (below_next KX.out k1) (p := ⟨w.heap.size, 2, none⟩) (Nat.le_refl _) (.slice x1 4 d1))
  rw [← hY] at R1 aY bY qY KY ⊢
  simp only [List.setIfInBounds_toArray, List.set] at aY
  clear hY q1 k1 cA fA aW bW qW KX HLR lA lQ
  obtain ⟨f, hf, hfB, hfl, ef, ff, hrf⟩ := R1.out.intAt (i := i) hiz
  subst hf
  have R2 := Lib.hid (R1.out.setInt (i := i) hiz n)
  have cA := cell_of_block aY
  have cQ := cell_of_block qY
  have lA := lt_of_block aY
  have lQ := lt_of_block qY
  have hfw : w.heap.size + 2 < f := by omega
  have ne_ : ¬ (w.heap.size = f) := by omega
  have ne_ : ¬ (f = w.heap.size) := by omega
  have ne_ : ¬ (w.heap.size + 1 = f) := by omega
  have ne_ : ¬ (f = w.heap.size + 1) := by omega
  go_upto_region 7 with fail
  obtain ⟨Z, hZ⟩ : ∃ Z, Z = Y.setCell ⟨f, i, none⟩ (.int .i64 n) := ⟨_, rfl⟩
  have aZ := (Below.heap_setCell Y ⟨f, i, none⟩ (.int .i64 n) w.heap.size (by simp; omega)).trans aY
  have bZ := (Below.heap_setCell Y ⟨f, i, none⟩ (.int .i64 n) (w.heap.size + 2) (by simp; omega)).trans bY
  have qZ := (Below.heap_setCell Y ⟨f, i, none⟩ (.int .i64 n) (w.heap.size + 1) (by simp; omega)).trans qY
  have KZ := Lib.hid (Below.setCell KY.out (p := ⟨f, i, none⟩) (show w.heap.size ≤ f by omega) (.int .i64 n))
  rw [← hZ] at R2 aZ bZ qZ KZ ⊢
  clear hZ aY bY qY cA cQ lA lQ lB R1 KY ef ff
  obtain ⟨ls, hls⟩ : ∃ ls, ls = la.set i n := ⟨_, rfl⟩
  have HLS := Lib.hid (show la.set (c - 1).toNat n = ls by rw [HCI.out, hls])
  have HL4 := Lib.hid (show ls.length = 4 by rw [hls, List.length_set]; exact HN2.out)
  rw [← hls] at R2
  clear hls
  have OZ := Lib.hid (O.out.newL KZ.out R2.out (by omega) hB)
  have cA := cell_of_block aZ
  have cQ := cell_of_block qZ
  go_wp2_with fail
  refine (l2At_c es c a0 a1 (some ⟨f, 0, none⟩) n0 16 4 c0 c1 d1 Z (OZ.out.e.slG five_len HN0.out)).mono ?_
  rintro e w3 ⟨rfl, k3⟩
  rw [figI_opt, hfig]
  have aW := carryN k3 aZ
  have bW := carryN k3 bZ
  have qW := carryN k3 qZ
  have KX := Lib.hid (below_next KZ.out k3)
  have OW := Lib.hid (OZ.out.below k3)
  clear k3 aZ bZ qZ KZ OZ R2 cA cQ
  have ho : optI (some k) = (k : Int) := rfl
  rw [ho]
  clear ho
  have hkk : (0 : Int) ≤ (k : Int) := by omega
  have hkd : decide ((0 : Int) ≤ (k : Int)) = true := by simp
  have hkn : ¬ (k : Int) < 0 := by omega
  have cA := cell_of_block aW
  have cQ := cell_of_block qW
  have cB := cell_of_block bW
  have fB := unfrozen_of_block bW
  have lA := lt_of_block aW
  have lB := lt_of_block bW
  have lQ := lt_of_block qW
  have hkn0 : k < n0 := by obtain ⟨hl, -⟩ := figAt_some hfig; rw [← HN0.out]; exact hl
  have CA := Lib.hid (fun (V : World) (kk : Below w3.heap.size w3 V) => l2Act_c (B := B) es fl ls k n0 4 a0 a1 (some ⟨f, 0, none⟩) c0 c1 d1 ⟨c, n, o, x, y⟩ V (OW.out.below kk) HN0.out HN1.out HL4.out hkn0 h4 (Nat.le_trans hB (Nat.le_trans KX.out.size kk.size)) HP.out HF.out HR.out HO1.out)
  go_wp2_with fail
  refine (CA.out w3 (Below.refl _ _)).mono ?_
  rintro e w4 ⟨v4, rfl, ov, k4⟩
  obtain ⟨p, hpp⟩ : ∃ p, p = actG ⟨es, fl, ls⟩ k ⟨c, n, o, x, y⟩ := ⟨_, rfl⟩
  have HPP := Lib.hid hpp
  rw [← hpp] at ov ⊢
  clear hpp
  obtain ⟨g4, cd⟩ := p
  simp only at ov ⊢
  obtain ⟨b0, d0, b1, e1, b2, e2, hv, o4⟩ := ov.rows
  obtain ⟨m0, hm0⟩ : ∃ m, m = g4.es.length := ⟨_, rfl⟩
  obtain ⟨m1, hm1⟩ : ∃ m, m = g4.fl.length := ⟨_, rfl⟩
  obtain ⟨m2, hm2⟩ : ∃ m, m = g4.la.length := ⟨_, rfl⟩
  rw [← hm0, ← hm1, ← hm2] at hv
  rw [hv]
  have HM0 := Lib.hid hm0
  have HM1 := Lib.hid hm1
  have HM2 := Lib.hid hm2
  have bV := carryN k4 bW
  have KV := Lib.hid (below_next KX.out k4)
  have OF := Lib.hid (o4.set3 bV (.slice b0 m0 d0) (.slice b1 m1 e1) (.slice b2 m2 e2))
  have KF := Lib.hid (below_set3 KV.out (show w.heap.size ≤ w.heap.size + 2 by omega) (.slice b0 m0 d0) (.slice b1 m1 e1) (.slice b2 m2 e2))
  clear hv ov hm0 hm1 hm2 o4 k4 aW bW qW cA cQ cB fB lA lB lQ KX OW CA
  have cB := cell_of_block bV
  have fB := unfrozen_of_block bV
  have lB := lt_of_block bV
  go_wp2_with fail
  refine bodyPost_ret (v := .tuple #[.agg #[.slice b0 m0 d0, .slice b1 m1 e1, .slice b2 m2 e2], .int .i64 cd]) (by simp [results, Try.results96, go_sem, cB]) rfl ?_
  rw [HLS.out, ← HPP.out]
  exact ⟨_, rfl, OF.out.gmV HM0.out.symm HM1.out.symm HM2.out.symm, KF.out⟩

/-- Of a game that is ok, and an ask that is, or none. -/
theorem l2Do_x {B : Nat} {X : Nat → Prop} (z : Gm) (r : Rq) (v : Value) (w : World) (h : OwnGX X w B v z) (hB : B ≤ w.heap.size) (hg : gameB z = true) (hr : good r = true) :
    Calls Try.prog 96 #[v, .agg #[.int .i64 r.c, .int .i64 r.n, .int .i64 r.o, .int .i64 r.x, .int .i64 r.y]] w (RetX X B (doG z r).1 (doG z r).2 w) := by
  obtain ⟨a0, c0, a1, c1, a2, c2, rfl, o3⟩ := h.rows
  have hg' := hg
  rw [gameB_iff] at hg'
  obtain ⟨h1, h2, h3, h4, h5, -⟩ := hg'
  have hle : z.es.length ≤ 4 := ents_le4 h1
  have hP := places_of h1.1
  obtain ⟨es, fl, la⟩ := z
  obtain ⟨c, n, o, x, y⟩ := r
  simp only at h1 h2 h3 h4 h5 hle hP o3 ⊢
  rw [h4, h5]
  unfold doG
  by_cases hz : (⟨c, n, o, x, y⟩ : Rq) = ⟨0, 0, 0, 0, 0⟩
  · rw [if_pos hz]
    refine l2Do_none es fl la es.length a0 a1 a2 c0 c1 c2 c n o x y w o3 rfl h4 h5 hle hB ?_
    injection hz with e1 e2 e3 e4 e5
    subst e1 e2 e3 e4 e5
    rfl
  · rw [if_neg hz]
    have hok := (good_or hr).resolve_right hz
    have hb := okB_xy hok
    simp only at hb hok
    have hnone : noneB c n o x y = false := eqR_ne (r := ⟨c, n, o, x, y⟩) (s := ⟨0, 0, 0, 0, 0⟩) hz
    have hc : 1 ≤ c ∧ c ≤ 4 := ⟨hb.1, hb.2.1⟩
    have hn : 1 ≤ n ∧ n ≤ 30 := ⟨hb.2.2.1, hb.2.2.2.1⟩
    by_cases hold : n ≤ la.getD (c - 1).toNat 0
    · rw [if_pos hold]
      exact l2Do_old es fl la es.length a0 a1 a2 c0 c1 c2 c n o x y w o3 rfl h4 h5 hle hB hc hn hnone hold
    · rw [if_neg hold]
      simp only
      cases hfig : figAt es c with
      | none =>
        simp only
        by_cases ho1 : o = 1
        · rw [if_pos ho1]
          exact l2Do_join es fl la es.length a0 a1 a2 c0 c1 c2 c n o x y w o3 rfl h4 h5 hle hB hc hn hnone hold hfig ho1
        · rw [if_neg ho1]
          exact l2Do_off es fl la es.length a0 a1 a2 c0 c1 c2 c n o x y w o3 rfl h4 h5 hle hB hc hn hnone hold hfig ho1
      | some k =>
        simp only
        by_cases ho1 : o = 1
        · rw [if_pos ho1]
          exact l2Do_there es fl la es.length a0 a1 a2 c0 c1 c2 c n o x y w o3 rfl h4 h5 hle hB hc hn hnone hold k hfig ho1
        · rw [if_neg ho1]
          exact l2Do_act es fl la es.length a0 a1 a2 c0 c1 c2 c n o x y w o3 rfl h4 h5 hle hB hc hn hnone hold k hfig ho1 hP h2 hok
theorem l2Do_c {B : Nat} (z : Gm) (r : Rq) (v : Value) (w : World) (h : OwnGm w B v z) (hB : B ≤ w.heap.size) (hg : gameB z = true) (hr : good r = true) :
    Calls Try.prog 96 #[v, .agg #[.int .i64 r.c, .int .i64 r.n, .int .i64 r.o, .int .i64 r.x, .int .i64 r.y]] w (RetG B (doG z r).1 (doG z r).2 w) :=
  (l2Do_x z r v w h.noX hB hg hr).mono fun e w' ⟨u, h1, h2, h3⟩ => ⟨u, h1, h2.own, h3⟩
end Go.Proofs.Ytofedboeggdkaaa
