/- Rows of a ledger (six integers each): slices of them copied, weighed, compared; condition: at most 2^20 elements. -/
import Derived.Test.YtbfnilfkhonpaaaDoorEqS
namespace Go.Proofs.YtbfnilfkhonpaaaDoor
open Go.RowKit Go.Joins

/-- A row: a request and its sum. -/
structure En where
  r : Rq
  s : Int
deriving DecidableEq
def En.cs (z : En) : List Value := [.int .i64 z.r.c, .int .i64 z.r.n, .int .i64 z.r.o, .int .i64 z.r.x, .int .i64 z.r.y, .int .i64 z.s]
def en0 : En := ⟨⟨0, 0, 0, 0, 0⟩, 0⟩
theorem six_len (z : En) : z.cs.length = 6 := rfl
theorem flat_six_set (zs : List En) (i : Nat) (h : i < zs.length) (z : En) :
    ((((((flat En.cs zs).setIfInBounds (i * 6) (.int .i64 z.r.c)).setIfInBounds (i * 6 + 1) (.int .i64 z.r.n)).setIfInBounds (i * 6 + 2) (.int .i64 z.r.o)).setIfInBounds (i * 6 + 3) (.int .i64 z.r.x)).setIfInBounds (i * 6 + 4) (.int .i64 z.r.y)).setIfInBounds (i * 6 + 5) (.int .i64 z.s) = flat En.cs (zs.set i z) := by
  unfold flat
  simp only [List.setIfInBounds_toArray]
  congr 1
  induction zs generalizing i with
  | nil => cases h
  | cons y zs ih =>
    cases i with
    | zero => simp [List.flatMap_cons, En.cs]
    | succ i =>
      have := ih i (by simpa using h)
      have e : ∀ j, (i + 1) * 6 + j = 6 + (i * 6 + j) := fun j => by omega
      have e0 : (i + 1) * 6 = 6 + i * 6 := by omega
      have ap : ∀ (l : List Value) (m : Nat) (v : Value), (y.cs ++ l).set (6 + m) v = y.cs ++ l.set m v := fun l m v => by
        rw [List.set_append_right _ _ (by rw [six_len]; omega), six_len]
        congr 2
        omega
      simp only [List.flatMap_cons, List.set_cons_succ]
      rw [e 1, e 2, e 3, e 4, e 5, e0, ap, ap, ap, ap, ap, ap, this]
theorem made_six (n : Nat) : madeCells #[.int .i64 0, .int .i64 0, .int .i64 0, .int .i64 0, .int .i64 0, .int .i64 0] (n * 6) = flat En.cs (List.replicate n en0) := by
  apply Array.ext
  · rw [flat_size six_len]; simp [madeCells]
  · intro i h1 h2
    have hi : i < n * 6 := by simpa [madeCells] using h1
    have g := flat_get six_len (List.replicate n en0) (i / 6) (by simp; omega) (i % 6) (by omega)
    rw [show i / 6 * 6 + i % 6 = i by omega] at g
    have hm : i % 6 = 0 ∨ i % 6 = 1 ∨ i % 6 = 2 ∨ i % 6 = 3 ∨ i % 6 = 4 ∨ i % 6 = 5 := by omega
    rw [Array.getElem?_eq_getElem h2] at g
    apply Option.some.inj
    rw [g]
    simp only [madeCells, Array.getElem_map, Array.getElem_range, List.getElem_replicate]
    rcases hm with h | h | h | h | h | h <;> (simp [h, En.cs, en0])

theorem six_at {w : World} {a : Option Addr} {zs : List En} (h : RowsAt w a 6 En.cs zs) (k : Nat) (hk : k < zs.length) :
    ∃ b off, a = some ⟨b, off, none⟩ ∧ b < w.heap.size ∧ ∀ wr, Below w.heap.size w wr → wr.cell? ⟨b, off + k * 6, none⟩ = some (.int .i64 zs[k].r.c) ∧ wr.cell? ⟨b, off + k * 6 + 1, none⟩ = some (.int .i64 zs[k].r.n) ∧ wr.cell? ⟨b, off + k * 6 + 2, none⟩ = some (.int .i64 zs[k].r.o) ∧ wr.cell? ⟨b, off + k * 6 + 3, none⟩ = some (.int .i64 zs[k].r.x) ∧ wr.cell? ⟨b, off + k * 6 + 4, none⟩ = some (.int .i64 zs[k].r.y) ∧ wr.cell? ⟨b, off + k * 6 + 5, none⟩ = some (.int .i64 zs[k].s) := by
  obtain ⟨b, off, rfl, hb, hc⟩ := h k hk
  refine ⟨b, off, rfl, hb, fun wr hbel => ?_⟩
  have g : ∀ j, j < 6 → wr.cell? ⟨b, off + k * 6 + j, none⟩ = zs[k].cs[j]? := fun j hj => (hbel.cell (p := ⟨b, _, none⟩) hb).trans (hc j hj)
  exact ⟨g 0 (by decide), g 1 (by decide), g 2 (by decide), g 3 (by decide), g 4 (by decide), g 5 (by decide)⟩

set_option maxHeartbeats 1000000 in
theorem toEntry_c (c n o x y s : Int) (w : World) :
    Calls Tryd.prog 63 #[.agg #[.int .i64 c, .int .i64 n, .int .i64 o, .int .i64 x, .int .i64 y, .int .i64 s]] w fun e w' => e = .returned (.agg #[.int .i64 c, .int .i64 n, .int .i64 o, .int .i64 x, .int .i64 y, .int .i64 s]) ∧ Below w.heap.size w w' := by
  go_enter Tryd.func63, Tryd.ntmps63
  go_wp2_with fail
  obtain ⟨W, hW, sW, aW, bW, cW, kW⟩ := blocks3 w (.cells #[.int .i64 c, .int .i64 n, .int .i64 o, .int .i64 x, .int .i64 y, .int .i64 s] 91) (.cells #[.int .i64 0, .int .i64 0, .int .i64 0, .int .i64 0, .int .i64 0, .int .i64 0] 44) (.cells #[.int .i64 0, .int .i64 0, .int .i64 0, .int .i64 0, .int .i64 0, .int .i64 0] 44)
  rw [← hW]
  clear hW
  refine (toReq_c c n o x y _).mono ?_
  rintro e w1 ⟨rfl, k1⟩
  have K1 := below_next kW k1
  have a1 := carryB k1 (by omega) aW
  have hcA := cell_of_block a1
  have b1 := carryB k1 (by omega) bW
  have c1 := carryB k1 (by omega) cW
  have hcB := cell_of_block b1
  have hfB := unfrozen_of_block b1
  have hcC := cell_of_block c1
  have hfC := unfrozen_of_block c1
  have lc := lt_of_block c1
  clear k1 aW bW cW kW
  go_wp2_with fail
  refine bodyPost_ret (v := .agg #[.int .i64 c, .int .i64 n, .int .i64 o, .int .i64 x, .int .i64 y, .int .i64 s]) (by simp [results, Tryd.results63, go_sem, hcB]) rfl ?_
  exact ⟨rfl, (by repeat' (first | with_reducible exact Below.refl _ _ | with_reducible assumption | with_reducible refine Below.alloc ?_ ?_ _ | with_reducible refine Below.drew ?_ | with_reducible refine Below.setCell ?_ ?_ _ | omega | (simp; omega) | (simp; done)))⟩

theorem infoEntry : (Tryd.prog.info? 44).map (fun i => (i.zero, i.size, i.bytes)) = some (some (.agg #[.int .i64 0, .int .i64 0, .int .i64 0, .int .i64 0, .int .i64 0, .int .i64 0]), 6, 48) := by kernel_rfl

theorem make_Entry (w : World) (n : Nat) (h : n ≤ 1048576) : (Instr.makeSlice 22 (.int .i64 (n : Int)) (.int .i64 (n : Int))).run Tryd.prog w = .ok (.slice (some ⟨w.heap.size, 0, none⟩) n n) (w.alloc (.cells (flat En.cs (List.replicate n en0)) 44)) := by
  obtain ⟨i0, hi, hz0, hz1, hz2⟩ := info_parts infoEntry
  have := run_make (P := Tryd.prog) (w := w) 22 44 i0 _ Tryd.underlying22 hi hz0 .i64 .i64 (n : Int) (n : Int) (by omega) (by omega) (by rw [hz2]; omega) (by omega)
  rw [hz1] at this
  rw [← made_six]
  simpa [Value.cells] using this

set_option maxRecDepth 100000 in
set_option maxHeartbeats 2000000 in
theorem toEntryS_c (v : Value) (zs : List En) (w : World) (h : IsSl w v 6 En.cs zs) (hn : zs.length ≤ 1048576) :
    Calls Tryd.prog 26 #[v] w (Copied 44 En.cs zs w) := by
  obtain ⟨a, cap, rfl, hlc, hm, hr⟩ := h
  have HR := Lib.hid hr
  clear hr
  unfold maxLen at hm
  generalize hnn : zs.length = n at *
  have hmk := make_Entry w n hn
  go_enter Tryd.func26, Tryd.ntmps26
  go_wp2_with fail
  obtain ⟨W, hW, sW, aW, kW⟩ := blocks1 w (.cells (flat En.cs (List.replicate n en0)) 44)
  rw [← hW]
  clear hW hmk
  go_loopw [4] (fun i wr => ∃ (k : Nat) (ys : List En), k ≤ n ∧ i = .int .i64 k ∧ ys.length = zs.length ∧ (∀ j, j < k → ys[j]? = zs[j]?) ∧ wr.heap[w.heap.size]? = some (.cells (flat En.cs ys) 44 (0, 0)) ∧ Below w.heap.size w wr) (fun i _ => n - (intOf i).toNat)
  case atStart => exact ⟨0, List.replicate n en0, Nat.zero_le _, rfl, by simp [hnn], fun j hj => absurd hj (Nat.not_lt_zero j), aW, kW⟩
  case round =>
    obtain ⟨k, ys, hk, rfl, hl, hal, hB, hbel⟩ := hrel
    have hlB := lt_of_block hB
    by_cases hlt : k < n
    · have hkz : k < zs.length := by omega
      obtain ⟨b, off, rfl, hbl, hca⟩ := HR.out k hkz
      have hc : ∀ j, j < 6 → wr.cell? ⟨b, off + k * 6 + j, none⟩ = zs[k].cs[j]? := fun j hj => (hbel.cell (p := ⟨b, off + k * 6 + j, none⟩) hbl).trans (hca j hj)
      have hal' := alike_next hkz (by omega) hal
      have hset := flat_six_set ys k (by omega) zs[k]
      clear hca
      generalize zs[k] = z at *
      have c0 : wr.cell? ⟨b, off + k * 6, none⟩ = some (.int .i64 z.r.c) := hc 0 (by decide)
      have c1 : wr.cell? ⟨b, off + k * 6 + 1, none⟩ = some (.int .i64 z.r.n) := hc 1 (by decide)
      have c2 : wr.cell? ⟨b, off + k * 6 + 2, none⟩ = some (.int .i64 z.r.o) := hc 2 (by decide)
      have c3 : wr.cell? ⟨b, off + k * 6 + 3, none⟩ = some (.int .i64 z.r.x) := hc 3 (by decide)
      have c4 : wr.cell? ⟨b, off + k * 6 + 4, none⟩ = some (.int .i64 z.r.y) := hc 4 (by decide)
      have c5 : wr.cell? ⟨b, off + k * 6 + 5, none⟩ = some (.int .i64 z.s) := hc 5 (by decide)
      clear hc
      have HB := Lib.hid hB
      have HA := Lib.hid hal'
      clear hB hal hal'
      go_wp2_with fail
      refine (toEntry_c z.r.c z.r.n z.r.o z.r.x z.r.y z.s _).mono ?_
      rintro e w1 ⟨rfl, k1⟩
      have hbel1 := below_next hbel k1
      have hB1 := carryB k1 hlB HB.out
      have hky : k < ys.length := by omega
      have hd : ∀ j, j < 6 → w1.cell? ⟨w.heap.size, k * 6 + j, none⟩ = ys[k].cs[j]? := fun j hj => by
        rw [cell_of_block hB1]
        exact flat_get six_len ys k hky j hj
      generalize ys[k] = y at *
      have d0 : w1.cell? ⟨w.heap.size, k * 6, none⟩ = some (.int .i64 y.r.c) := hd 0 (by decide)
      have d1 : w1.cell? ⟨w.heap.size, k * 6 + 1, none⟩ = some (.int .i64 y.r.n) := hd 1 (by decide)
      have d2 : w1.cell? ⟨w.heap.size, k * 6 + 2, none⟩ = some (.int .i64 y.r.o) := hd 2 (by decide)
      have d3 : w1.cell? ⟨w.heap.size, k * 6 + 3, none⟩ = some (.int .i64 y.r.x) := hd 3 (by decide)
      have d4 : w1.cell? ⟨w.heap.size, k * 6 + 4, none⟩ = some (.int .i64 y.r.y) := hd 4 (by decide)
      have d5 : w1.cell? ⟨w.heap.size, k * 6 + 5, none⟩ = some (.int .i64 y.s) := hd 5 (by decide)
      have hf := unfrozen_of_block hB1
      have hB' := block_setCell (i := k * 6 + 5) (block_setCell (i := k * 6 + 4) (block_setCell (i := k * 6 + 3) (block_setCell (i := k * 6 + 2) (block_setCell (i := k * 6 + 1) (block_setCell (i := k * 6) hB1 (.int .i64 z.r.c)) (.int .i64 z.r.n)) (.int .i64 z.r.o)) (.int .i64 z.r.x)) (.int .i64 z.r.y)) (.int .i64 z.s)
      rw [hset] at hB'
      have HB' := Lib.hid hB'
      have hle : w.heap.size ≤ w.heap.size := Nat.le_refl _
      clear c0 c1 c2 c3 c4 c5 hd hB' hB1 hset
      go_wp2_with fail
      go_roundw
      case rel => exact ⟨k + 1, ys.set k z, by omega, by go_num, by simpa using hl, HA.out, HB'.out, (by repeat' (first | with_reducible exact Below.refl _ _ | with_reducible assumption | with_reducible refine Below.alloc ?_ ?_ _ | with_reducible refine Below.drew ?_ | with_reducible refine Below.setCell ?_ ?_ _ | omega | (simp; omega) | (simp; done)))⟩
      case measure => simp [intOf]; omega
    · have e := alike_all hl hal (by omega)
      subst e
      go_wp2
      go_ret
      unfold Copied
      rw [hnn]
      exact ⟨rfl, hB, hbel⟩

set_option maxHeartbeats 400000 in
theorem szEntryS_c (a : Option Addr) (n cap : Nat) (left : Int) (w : World) (hlc : n ≤ cap) (hm : cap ≤ maxLen) (h0 : 0 ≤ left) (h1 : left ≤ 1048576) :
    Calls Tryd.prog 24 #[.slice a n cap, .int .i64 left] w fun e w' => e = .returned (.int .i64 (leftOf left n)) ∧ w = w' := by
  unfold maxLen at hm
  by_cases hlt : left - n < 0
  · go_enter Tryd.func24, Tryd.ntmps24
    go_wp2
    go_ret
    exact ⟨ret_int (by unfold leftOf; rw [if_pos hlt]), rfl⟩
  · go_enter Tryd.func24, Tryd.ntmps24
    go_wp2
    go_ret
    exact ⟨ret_int (by unfold leftOf; rw [if_neg (by omega)]), rfl⟩

set_option maxHeartbeats 1000000 in
theorem eqEntry_self (c n o x y s : Int) (w : World) :
    Calls Tryd.prog 51 #[.agg #[.int .i64 c, .int .i64 n, .int .i64 o, .int .i64 x, .int .i64 y, .int .i64 s], .agg #[.int .i64 c, .int .i64 n, .int .i64 o, .int .i64 x, .int .i64 y, .int .i64 s]] w (Yes w) := by
  go_enter Tryd.func51, Tryd.ntmps51
  go_wp2_with fail
  obtain ⟨W, hW, sW, aW, bW, kW⟩ := blocks2 w (.cells #[.int .i64 c, .int .i64 n, .int .i64 o, .int .i64 x, .int .i64 y, .int .i64 s] 44) (.cells #[.int .i64 c, .int .i64 n, .int .i64 o, .int .i64 x, .int .i64 y, .int .i64 s] 44)
  rw [← hW]
  clear hW
  refine (eqReq_self c n o x y _).mono ?_
  rintro e w1 ⟨rfl, k1⟩
  have K1 := below_next kW k1
  have hcA := cell_of_block (carryB k1 (by omega) aW)
  have hcB := cell_of_block (carryB k1 (by omega) bW)
  go_wp2_with fail
  go_ret
  exact ⟨rfl, K1⟩

set_option maxRecDepth 100000 in
set_option maxHeartbeats 1000000 in
theorem eqEntryS_c (va vb : Value) (zs : List En) (w : World) (ha : IsSl w va 6 En.cs zs) (hb : IsSl w vb 6 En.cs zs) :
    Calls Tryd.prog 17 #[va, vb] w (Yes w) := by
  obtain ⟨a, cap, rfl, hlc, hm, hra⟩ := ha
  obtain ⟨b, cap', rfl, hlc', hm', hrb⟩ := hb
  have HA := Lib.hid hra
  have HB := Lib.hid hrb
  clear hra hrb
  unfold maxLen at hm hm'
  generalize hnn : zs.length = n at *
  go_enter Tryd.func17, Tryd.ntmps17
  go_wp2_with fail
  go_loopw [5] (fun i wr => ∃ k : Nat, k ≤ n ∧ i = .int .i64 k ∧ Below w.heap.size w wr) (fun i _ => n - (intOf i).toNat)
  case atStart => exact ⟨0, Nat.zero_le _, rfl, Below.refl _ _⟩
  case round =>
    obtain ⟨k, hk, rfl, hbel⟩ := hrel
    by_cases hlt : k < n
    · have hkz : k < zs.length := by omega
      have hk1 : (k : Int) < (n : Int) := by omega
      have hk0 : (0 : Int) ≤ (k : Int) := by omega
      obtain ⟨b0, o0, rfl, hl0, hc0⟩ := HA.out k hkz
      obtain ⟨b1, o1, rfl, hl1, hc1⟩ := HB.out k hkz
      have c0 : wr.cell? ⟨b0, o0 + k * 6, none⟩ = some (.int .i64 zs[k].r.c) := (hbel.cell (p := ⟨b0, _, none⟩) hl0).trans (hc0 0 (by decide))
      have c1 : wr.cell? ⟨b0, o0 + k * 6 + 1, none⟩ = some (.int .i64 zs[k].r.n) := (hbel.cell (p := ⟨b0, _, none⟩) hl0).trans (hc0 1 (by decide))
      have c2 : wr.cell? ⟨b0, o0 + k * 6 + 2, none⟩ = some (.int .i64 zs[k].r.o) := (hbel.cell (p := ⟨b0, _, none⟩) hl0).trans (hc0 2 (by decide))
      have c3 : wr.cell? ⟨b0, o0 + k * 6 + 3, none⟩ = some (.int .i64 zs[k].r.x) := (hbel.cell (p := ⟨b0, _, none⟩) hl0).trans (hc0 3 (by decide))
      have c4 : wr.cell? ⟨b0, o0 + k * 6 + 4, none⟩ = some (.int .i64 zs[k].r.y) := (hbel.cell (p := ⟨b0, _, none⟩) hl0).trans (hc0 4 (by decide))
      have c5 : wr.cell? ⟨b0, o0 + k * 6 + 5, none⟩ = some (.int .i64 zs[k].s) := (hbel.cell (p := ⟨b0, _, none⟩) hl0).trans (hc0 5 (by decide))
      have d0 : wr.cell? ⟨b1, o1 + k * 6, none⟩ = some (.int .i64 zs[k].r.c) := (hbel.cell (p := ⟨b1, _, none⟩) hl1).trans (hc1 0 (by decide))
      have d1 : wr.cell? ⟨b1, o1 + k * 6 + 1, none⟩ = some (.int .i64 zs[k].r.n) := (hbel.cell (p := ⟨b1, _, none⟩) hl1).trans (hc1 1 (by decide))
      have d2 : wr.cell? ⟨b1, o1 + k * 6 + 2, none⟩ = some (.int .i64 zs[k].r.o) := (hbel.cell (p := ⟨b1, _, none⟩) hl1).trans (hc1 2 (by decide))
      have d3 : wr.cell? ⟨b1, o1 + k * 6 + 3, none⟩ = some (.int .i64 zs[k].r.x) := (hbel.cell (p := ⟨b1, _, none⟩) hl1).trans (hc1 3 (by decide))
      have d4 : wr.cell? ⟨b1, o1 + k * 6 + 4, none⟩ = some (.int .i64 zs[k].r.y) := (hbel.cell (p := ⟨b1, _, none⟩) hl1).trans (hc1 4 (by decide))
      have d5 : wr.cell? ⟨b1, o1 + k * 6 + 5, none⟩ = some (.int .i64 zs[k].s) := (hbel.cell (p := ⟨b1, _, none⟩) hl1).trans (hc1 5 (by decide))
      clear hc0 hc1
      generalize zs[k] = z at *
      go_wp2_with fail
      go_region_with (go_at_call 51; refine (eqEntry_self _ _ _ _ _ _ _).mono ?_; rintro e w1 ⟨rfl, k1⟩)
      all_goals
        have hbel1 := below_next hbel (below_next (Below.drew (Below.refl _ _)) k1)
        clear k1 hbel
        go_wp2_with fail
        refine ⟨⟨k + 1, by omega, by go_num, by first | exact hbel1 | exact hbel1.drew⟩, ?_⟩
        simp [intOf]; omega
    · go_wp2_with fail
      go_ret
      exact ⟨rfl, hbel⟩

end Go.Proofs.YtbfnilfkhonpaaaDoor

