/- Claims (seven integers each): slices of them copied, weighed, compared; condition: at most 2^20 elements. -/
import Derived.Test.YtgdhieffjflejaaEqS
set_option linter.unusedSimpArgs false
set_option linter.unusedVariables false
namespace Go.Proofs.Ytgdhieffjflejaa
open Go.RowKit Go.Joins

/-- A claim: two numbers and a request. -/
structure Cl where
  s : Int
  v : Int
  r : Rq
deriving DecidableEq
def Cl.cs (z : Cl) : List Value := [.int .i64 z.s, .int .i64 z.v, .int .i64 z.r.c, .int .i64 z.r.n, .int .i64 z.r.o, .int .i64 z.r.x, .int .i64 z.r.y]
def cl0 : Cl := ⟨0, 0, ⟨0, 0, 0, 0, 0⟩⟩
theorem seven_len (z : Cl) : z.cs.length = 7 := rfl
theorem flat_seven_set (zs : List Cl) (i : Nat) (h : i < zs.length) (z : Cl) :
    (((((((flat Cl.cs zs).setIfInBounds (i * 7) (.int .i64 z.s)).setIfInBounds (i * 7 + 1) (.int .i64 z.v)).setIfInBounds (i * 7 + 2) (.int .i64 z.r.c)).setIfInBounds (i * 7 + 3) (.int .i64 z.r.n)).setIfInBounds (i * 7 + 4) (.int .i64 z.r.o)).setIfInBounds (i * 7 + 5) (.int .i64 z.r.x)).setIfInBounds (i * 7 + 6) (.int .i64 z.r.y) = flat Cl.cs (zs.set i z) := by
  unfold flat
  simp only [List.setIfInBounds_toArray]
  congr 1
  induction zs generalizing i with
  | nil => cases h
  | cons y zs ih =>
    cases i with
    | zero => simp [List.flatMap_cons, Cl.cs]
    | succ i =>
      have := ih i (by simpa using h)
      have e : ∀ j, (i + 1) * 7 + j = 7 + (i * 7 + j) := fun j => by omega
      have e0 : (i + 1) * 7 = 7 + i * 7 := by omega
      have ap : ∀ (l : List Value) (m : Nat) (v : Value), (y.cs ++ l).set (7 + m) v = y.cs ++ l.set m v := fun l m v => by
        rw [List.set_append_right _ _ (by rw [seven_len]; omega), seven_len]
        congr 2
        omega
      simp only [List.flatMap_cons, List.set_cons_succ]
      rw [e 1, e 2, e 3, e 4, e 5, e 6, e0, ap, ap, ap, ap, ap, ap, ap, this]
theorem made_seven (n : Nat) : madeCells #[.int .i64 0, .int .i64 0, .int .i64 0, .int .i64 0, .int .i64 0, .int .i64 0, .int .i64 0] (n * 7) = flat Cl.cs (List.replicate n cl0) := by
  apply Array.ext
  · rw [flat_size seven_len]; simp [madeCells]
  · intro i h1 h2
    have hi : i < n * 7 := by simpa [madeCells] using h1
    have g := flat_get seven_len (List.replicate n cl0) (i / 7) (by simp; omega) (i % 7) (by omega)
    rw [show i / 7 * 7 + i % 7 = i by omega] at g
    have hm : i % 7 = 0 ∨ i % 7 = 1 ∨ i % 7 = 2 ∨ i % 7 = 3 ∨ i % 7 = 4 ∨ i % 7 = 5 ∨ i % 7 = 6 := by omega
    rw [Array.getElem?_eq_getElem h2] at g
    apply Option.some.inj
    rw [g]
    simp only [madeCells, Array.getElem_map, Array.getElem_range, List.getElem_replicate]
    rcases hm with h | h | h | h | h | h | h <;> (simp [h, Cl.cs, cl0])

theorem seven_at {w : World} {a : Option Addr} {zs : List Cl} (h : RowsAt w a 7 Cl.cs zs) (k : Nat) (hk : k < zs.length) :
    ∃ b off, a = some ⟨b, off, none⟩ ∧ b < w.heap.size ∧ ∀ wr, Below w.heap.size w wr → wr.cell? ⟨b, off + k * 7, none⟩ = some (.int .i64 zs[k].s) ∧ wr.cell? ⟨b, off + k * 7 + 1, none⟩ = some (.int .i64 zs[k].v) ∧ wr.cell? ⟨b, off + k * 7 + 2, none⟩ = some (.int .i64 zs[k].r.c) ∧ wr.cell? ⟨b, off + k * 7 + 3, none⟩ = some (.int .i64 zs[k].r.n) ∧ wr.cell? ⟨b, off + k * 7 + 4, none⟩ = some (.int .i64 zs[k].r.o) ∧ wr.cell? ⟨b, off + k * 7 + 5, none⟩ = some (.int .i64 zs[k].r.x) ∧ wr.cell? ⟨b, off + k * 7 + 6, none⟩ = some (.int .i64 zs[k].r.y) := by
  obtain ⟨b, off, rfl, hb, hc⟩ := h k hk
  refine ⟨b, off, rfl, hb, fun wr hbel => ?_⟩
  have g : ∀ j, j < 7 → wr.cell? ⟨b, off + k * 7 + j, none⟩ = zs[k].cs[j]? := fun j hj => (hbel.cell (p := ⟨b, _, none⟩) hb).trans (hc j hj)
  exact ⟨g 0 (by decide), g 1 (by decide), g 2 (by decide), g 3 (by decide), g 4 (by decide), g 5 (by decide), g 6 (by decide)⟩

set_option maxHeartbeats 1000000 in
theorem toClaim_c (s v c n o x y : Int) (w : World) :
    Calls Try.prog 55 #[.agg #[.int .i64 s, .int .i64 v, .int .i64 c, .int .i64 n, .int .i64 o, .int .i64 x, .int .i64 y]] w fun e w' => e = .returned (.agg #[.int .i64 s, .int .i64 v, .int .i64 c, .int .i64 n, .int .i64 o, .int .i64 x, .int .i64 y]) ∧ Below w.heap.size w w' := by
  go_enter Try.func55, Try.ntmps55
  go_wp2_with fail
  obtain ⟨W, hW, sW, aW, bW, cW, kW⟩ := blocks3 w (.cells #[.int .i64 s, .int .i64 v, .int .i64 c, .int .i64 n, .int .i64 o, .int .i64 x, .int .i64 y] 89) (.cells #[.int .i64 0, .int .i64 0, .int .i64 0, .int .i64 0, .int .i64 0, .int .i64 0, .int .i64 0] 62) (.cells #[.int .i64 s, .int .i64 v, .int .i64 0, .int .i64 0, .int .i64 0, .int .i64 0, .int .i64 0] 62)
  rw [← hW]
  clear hW
  refine (toReq_c c n o x y _).mono ?_
  rintro e w1 ⟨rfl, k1⟩
  have K1 := below_next kW k1
  have b1 := carryB k1 (by omega) bW
  have c1 := carryB k1 (by omega) cW
  have hcB := cell_of_block b1
  have hfB := unfrozen_of_block b1
  have hcC := cell_of_block c1
  have hfC := unfrozen_of_block c1
  have lc := lt_of_block c1
  clear k1 aW bW cW kW
  go_wp2_with fail
  refine bodyPost_ret (v := .agg #[.int .i64 s, .int .i64 v, .int .i64 c, .int .i64 n, .int .i64 o, .int .i64 x, .int .i64 y]) (by simp [results, Try.results55, go_sem, hcB]) rfl ?_
  exact ⟨rfl, (by repeat' (first | with_reducible exact Below.refl _ _ | with_reducible assumption | with_reducible refine Below.alloc ?_ ?_ _ | with_reducible refine Below.drew ?_ | with_reducible refine Below.setCell ?_ ?_ _ | omega | (simp; omega) | (simp; done)))⟩

theorem infoClaim : (Try.prog.info? 62).map (fun i => (i.zero, i.size, i.bytes)) = some (some (.agg #[.int .i64 0, .int .i64 0, .int .i64 0, .int .i64 0, .int .i64 0, .int .i64 0, .int .i64 0]), 7, 56) := by kernel_rfl

theorem make_Claim (w : World) (n : Nat) (h : n ≤ 1048576) : (Instr.makeSlice 31 (.int .i64 (n : Int)) (.int .i64 (n : Int))).run Try.prog w = .ok (.slice (some ⟨w.heap.size, 0, none⟩) n n) (w.alloc (.cells (flat Cl.cs (List.replicate n cl0)) 62)) := by
  obtain ⟨i0, hi, hz0, hz1, hz2⟩ := info_parts infoClaim
  have := run_make (P := Try.prog) (w := w) 31 62 i0 _ Try.underlying31 hi hz0 .i64 .i64 (n : Int) (n : Int) (by omega) (by omega) (by rw [hz2]; omega) (by omega)
  rw [hz1] at this
  rw [← made_seven]
  simpa [Value.cells] using this

set_option maxRecDepth 100000 in
set_option maxHeartbeats 2000000 in
theorem toClaimS_c (v : Value) (zs : List Cl) (w : World) (h : IsSl w v 7 Cl.cs zs) (hn : zs.length ≤ 1048576) :
    Calls Try.prog 27 #[v] w (Copied 62 Cl.cs zs w) := by
  obtain ⟨a, cap, rfl, hlc, hm, hr⟩ := h
  have HR := Lib.hid hr
  clear hr
  unfold maxLen at hm
  generalize hnn : zs.length = n at *
  have hmk := make_Claim w n hn
  go_enter Try.func27, Try.ntmps27
  go_wp2_with fail
  obtain ⟨W, hW, sW, aW, kW⟩ := blocks1 w (.cells (flat Cl.cs (List.replicate n cl0)) 62)
  rw [← hW]
  clear hW hmk
  go_loopw [4] (fun i wr => ∃ (k : Nat) (ys : List Cl), k ≤ n ∧ i = .int .i64 k ∧ ys.length = zs.length ∧ (∀ j, j < k → ys[j]? = zs[j]?) ∧ wr.heap[w.heap.size]? = some (.cells (flat Cl.cs ys) 62 (0, 0)) ∧ Below w.heap.size w wr) (fun i _ => n - (intOf i).toNat)
  case atStart => exact ⟨0, List.replicate n cl0, Nat.zero_le _, rfl, by simp [hnn], fun j hj => absurd hj (Nat.not_lt_zero j), aW, kW⟩
  case round =>
    obtain ⟨k, ys, hk, rfl, hl, hal, hB, hbel⟩ := hrel
    have hlB := lt_of_block hB
    by_cases hlt : k < n
    · have hkz : k < zs.length := by omega
      obtain ⟨b, off, rfl, hbl, hca⟩ := HR.out k hkz
      have hc : ∀ j, j < 7 → wr.cell? ⟨b, off + k * 7 + j, none⟩ = zs[k].cs[j]? := fun j hj => (hbel.cell (p := ⟨b, off + k * 7 + j, none⟩) hbl).trans (hca j hj)
      have hal' := alike_next hkz (by omega) hal
      have hset := flat_seven_set ys k (by omega) zs[k]
      clear hca
      generalize zs[k] = z at *
      have c0 : wr.cell? ⟨b, off + k * 7, none⟩ = some (.int .i64 z.s) := hc 0 (by decide)
      have c1 : wr.cell? ⟨b, off + k * 7 + 1, none⟩ = some (.int .i64 z.v) := hc 1 (by decide)
      have c2 : wr.cell? ⟨b, off + k * 7 + 2, none⟩ = some (.int .i64 z.r.c) := hc 2 (by decide)
      have c3 : wr.cell? ⟨b, off + k * 7 + 3, none⟩ = some (.int .i64 z.r.n) := hc 3 (by decide)
      have c4 : wr.cell? ⟨b, off + k * 7 + 4, none⟩ = some (.int .i64 z.r.o) := hc 4 (by decide)
      have c5 : wr.cell? ⟨b, off + k * 7 + 5, none⟩ = some (.int .i64 z.r.x) := hc 5 (by decide)
      have c6 : wr.cell? ⟨b, off + k * 7 + 6, none⟩ = some (.int .i64 z.r.y) := hc 6 (by decide)
      clear hc
      have HB := Lib.hid hB
      have HA := Lib.hid hal'
      clear hB hal hal'
      go_wp2_with fail
      refine (toClaim_c z.s z.v z.r.c z.r.n z.r.o z.r.x z.r.y _).mono ?_
      rintro e w1 ⟨rfl, k1⟩
      have hbel1 := below_next hbel k1
      have hB1 := carryB k1 hlB HB.out
      have hky : k < ys.length := by omega
      have hd : ∀ j, j < 7 → w1.cell? ⟨w.heap.size, k * 7 + j, none⟩ = ys[k].cs[j]? := fun j hj => by
        rw [cell_of_block hB1]
        exact flat_get seven_len ys k hky j hj
      generalize ys[k] = y at *
      have d0 : w1.cell? ⟨w.heap.size, k * 7, none⟩ = some (.int .i64 y.s) := hd 0 (by decide)
      have d1 : w1.cell? ⟨w.heap.size, k * 7 + 1, none⟩ = some (.int .i64 y.v) := hd 1 (by decide)
      have d2 : w1.cell? ⟨w.heap.size, k * 7 + 2, none⟩ = some (.int .i64 y.r.c) := hd 2 (by decide)
      have d3 : w1.cell? ⟨w.heap.size, k * 7 + 3, none⟩ = some (.int .i64 y.r.n) := hd 3 (by decide)
      have d4 : w1.cell? ⟨w.heap.size, k * 7 + 4, none⟩ = some (.int .i64 y.r.o) := hd 4 (by decide)
      have d5 : w1.cell? ⟨w.heap.size, k * 7 + 5, none⟩ = some (.int .i64 y.r.x) := hd 5 (by decide)
      have d6 : w1.cell? ⟨w.heap.size, k * 7 + 6, none⟩ = some (.int .i64 y.r.y) := hd 6 (by decide)
      have hf := unfrozen_of_block hB1
      have hB' := block_setCell (i := k * 7 + 6) (block_setCell (i := k * 7 + 5) (block_setCell (i := k * 7 + 4) (block_setCell (i := k * 7 + 3) (block_setCell (i := k * 7 + 2) (block_setCell (i := k * 7 + 1) (block_setCell (i := k * 7) hB1 (.int .i64 z.s)) (.int .i64 z.v)) (.int .i64 z.r.c)) (.int .i64 z.r.n)) (.int .i64 z.r.o)) (.int .i64 z.r.x)) (.int .i64 z.r.y)
      rw [hset] at hB'
      have HB' := Lib.hid hB'
      have hle : w.heap.size ≤ w.heap.size := Nat.le_refl _
      clear c0 c1 c2 c3 c4 c5 c6 hd hB' hB1 hset
      go_wp2_with fail
      go_roundw
      case rel => exact ⟨k + 1, ys.set k z, by omega, by go_num, by simpa using hl, HA.out, HB'.out, (by repeat' (first | with_reducible exact Below.refl _ _ | with_reducible assumption | with_reducible refine Below.alloc ?_ ?_ _ | with_reducible refine Below.drew ?_ | with_reducible refine Below.setCell ?_ ?_ _ | omega | (simp; omega) | (simp; done)))⟩
      case measure => simp [intOf]; omega
    · have e := alike_all hl hal (by omega)
      subst e
      go_wp2
      go_ret
      unfold Copied
      rw [hnn]
      exact ⟨rfl, hB, hbel⟩

set_option maxHeartbeats 400000 in
theorem szClaimS_c (a : Option Addr) (n cap : Nat) (left : Int) (w : World) (hlc : n ≤ cap) (hm : cap ≤ maxLen) (h0 : 0 ≤ left) (h1 : left ≤ 1048576) :
    Calls Try.prog 23 #[.slice a n cap, .int .i64 left] w fun e w' => e = .returned (.int .i64 (leftOf left n)) ∧ w = w' := by
  unfold maxLen at hm
  by_cases hlt : left - n < 0
  · go_enter Try.func23, Try.ntmps23
    go_wp2
    go_ret
    exact ⟨ret_int (by unfold leftOf; rw [if_pos hlt]), rfl⟩
  · go_enter Try.func23, Try.ntmps23
    go_wp2
    go_ret
    exact ⟨ret_int (by unfold leftOf; rw [if_neg (by omega)]), rfl⟩

set_option maxHeartbeats 1000000 in
theorem eqClaim_self (s v c n o x y : Int) (w : World) :
    Calls Try.prog 57 #[.agg #[.int .i64 s, .int .i64 v, .int .i64 c, .int .i64 n, .int .i64 o, .int .i64 x, .int .i64 y], .agg #[.int .i64 s, .int .i64 v, .int .i64 c, .int .i64 n, .int .i64 o, .int .i64 x, .int .i64 y]] w (Yes w) := by
  go_enter Try.func57, Try.ntmps57
  go_wp2_with fail
  obtain ⟨W, hW, sW, aW, bW, kW⟩ := blocks2 w (.cells #[.int .i64 s, .int .i64 v, .int .i64 c, .int .i64 n, .int .i64 o, .int .i64 x, .int .i64 y] 62) (.cells #[.int .i64 s, .int .i64 v, .int .i64 c, .int .i64 n, .int .i64 o, .int .i64 x, .int .i64 y] 62)
  rw [← hW]
  clear hW
  refine (eqReq_self c n o x y _).mono ?_
  rintro e w1 ⟨rfl, k1⟩
  have K1 := below_next kW k1
  go_wp2_with fail
  go_ret
  exact ⟨rfl, K1⟩

set_option maxRecDepth 100000 in
set_option maxHeartbeats 1000000 in
theorem eqClaimS_c (va vb : Value) (zs : List Cl) (w : World) (ha : IsSl w va 7 Cl.cs zs) (hb : IsSl w vb 7 Cl.cs zs) :
    Calls Try.prog 33 #[va, vb] w (Yes w) := by
  obtain ⟨a, cap, rfl, hlc, hm, hra⟩ := ha
  obtain ⟨b, cap', rfl, hlc', hm', hrb⟩ := hb
  have HA := Lib.hid hra
  have HB := Lib.hid hrb
  clear hra hrb
  unfold maxLen at hm hm'
  generalize hnn : zs.length = n at *
  go_enter Try.func33, Try.ntmps33
  go_wp2_with fail
  go_loopw [5] (fun i wr => ∃ k : Nat, k ≤ n ∧ i = .int .i64 k ∧ Below w.heap.size w wr) (fun i _ => n - (intOf i).toNat)
  case atStart => exact ⟨0, Nat.zero_le _, rfl, Below.refl _ _⟩
  case round =>
    obtain ⟨k, hk, rfl, hbel⟩ := hrel
    by_cases hlt : k < n
    · have hkz : k < zs.length := by omega
      have hk1 : (k : Int) < (n : Int) := by omega
      have hk0 : (0 : Int) ≤ (k : Int) := by omega
      obtain ⟨b0, o0, rfl, hl0, hc0⟩ := HA.out k hkz
      obtain ⟨b1, o1, rfl, hl1, hc1⟩ := HB.out k hkz
      have c0 : wr.cell? ⟨b0, o0 + k * 7, none⟩ = some (.int .i64 zs[k].s) := (hbel.cell (p := ⟨b0, _, none⟩) hl0).trans (hc0 0 (by decide))
      have c1 : wr.cell? ⟨b0, o0 + k * 7 + 1, none⟩ = some (.int .i64 zs[k].v) := (hbel.cell (p := ⟨b0, _, none⟩) hl0).trans (hc0 1 (by decide))
      have c2 : wr.cell? ⟨b0, o0 + k * 7 + 2, none⟩ = some (.int .i64 zs[k].r.c) := (hbel.cell (p := ⟨b0, _, none⟩) hl0).trans (hc0 2 (by decide))
      have c3 : wr.cell? ⟨b0, o0 + k * 7 + 3, none⟩ = some (.int .i64 zs[k].r.n) := (hbel.cell (p := ⟨b0, _, none⟩) hl0).trans (hc0 3 (by decide))
      have c4 : wr.cell? ⟨b0, o0 + k * 7 + 4, none⟩ = some (.int .i64 zs[k].r.o) := (hbel.cell (p := ⟨b0, _, none⟩) hl0).trans (hc0 4 (by decide))
      have c5 : wr.cell? ⟨b0, o0 + k * 7 + 5, none⟩ = some (.int .i64 zs[k].r.x) := (hbel.cell (p := ⟨b0, _, none⟩) hl0).trans (hc0 5 (by decide))
      have c6 : wr.cell? ⟨b0, o0 + k * 7 + 6, none⟩ = some (.int .i64 zs[k].r.y) := (hbel.cell (p := ⟨b0, _, none⟩) hl0).trans (hc0 6 (by decide))
      have d0 : wr.cell? ⟨b1, o1 + k * 7, none⟩ = some (.int .i64 zs[k].s) := (hbel.cell (p := ⟨b1, _, none⟩) hl1).trans (hc1 0 (by decide))
      have d1 : wr.cell? ⟨b1, o1 + k * 7 + 1, none⟩ = some (.int .i64 zs[k].v) := (hbel.cell (p := ⟨b1, _, none⟩) hl1).trans (hc1 1 (by decide))
      have d2 : wr.cell? ⟨b1, o1 + k * 7 + 2, none⟩ = some (.int .i64 zs[k].r.c) := (hbel.cell (p := ⟨b1, _, none⟩) hl1).trans (hc1 2 (by decide))
      have d3 : wr.cell? ⟨b1, o1 + k * 7 + 3, none⟩ = some (.int .i64 zs[k].r.n) := (hbel.cell (p := ⟨b1, _, none⟩) hl1).trans (hc1 3 (by decide))
      have d4 : wr.cell? ⟨b1, o1 + k * 7 + 4, none⟩ = some (.int .i64 zs[k].r.o) := (hbel.cell (p := ⟨b1, _, none⟩) hl1).trans (hc1 4 (by decide))
      have d5 : wr.cell? ⟨b1, o1 + k * 7 + 5, none⟩ = some (.int .i64 zs[k].r.x) := (hbel.cell (p := ⟨b1, _, none⟩) hl1).trans (hc1 5 (by decide))
      have d6 : wr.cell? ⟨b1, o1 + k * 7 + 6, none⟩ = some (.int .i64 zs[k].r.y) := (hbel.cell (p := ⟨b1, _, none⟩) hl1).trans (hc1 6 (by decide))
      clear hc0 hc1
      generalize zs[k] = z at *
      go_wp2_with fail
      go_region_with (go_at_call 57; refine (eqClaim_self _ _ _ _ _ _ _ _).mono ?_; rintro e w1 ⟨rfl, k1⟩)
      all_goals
        have hbel1 := below_next hbel (below_next (Below.drew (Below.refl _ _)) k1)
        clear k1 hbel
        go_wp2_with fail
        refine ⟨⟨k + 1, by omega, by go_num, by first | exact hbel1 | exact hbel1.drew⟩, ?_⟩
        simp [intOf]; omega
    · go_wp2_with fail
      go_ret
      exact ⟨rfl, hbel⟩

end Go.Proofs.Ytgdhieffjflejaa
