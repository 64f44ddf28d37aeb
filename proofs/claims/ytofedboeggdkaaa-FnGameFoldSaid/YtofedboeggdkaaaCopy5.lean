/- Contracts of toReqS and toEntS, that copy slices of structs of five integers; condition: at most 2^20 elements. -/
import Derived.Test.YtofedboeggdkaaaCopy
namespace Go.Proofs.Ytofedboeggdkaaa
open Go.RowKit Go.Joins


theorem infoReq : (Try.prog.info? 34).map (fun i => (i.zero, i.size, i.bytes)) = some (some (.agg #[.int .i64 0, .int .i64 0, .int .i64 0, .int .i64 0, .int .i64 0]), 5, 40) := by kernel_rfl

theorem make_Req (w : World) (n : Nat) (h : n ≤ 1048576) : (Instr.makeSlice 28 (.int .i64 (n : Int)) (.int .i64 (n : Int))).run Try.prog w = .ok (.slice (some ⟨w.heap.size, 0, none⟩) n n) (w.alloc (.cells (flat Rq.cs (List.replicate n ⟨0, 0, 0, 0, 0⟩)) 34)) := by
  obtain ⟨i0, hi, hz0, hz1, hz2⟩ := info_parts infoReq
  have := run_make (P := Try.prog) (w := w) 28 34 i0 _ Try.underlying28 hi hz0 .i64 .i64 (n : Int) (n : Int) (by omega) (by omega) (by rw [hz2]; omega) (by omega)
  rw [hz1] at this
  rw [← made_five]
  simpa [Value.cells] using this

set_option maxRecDepth 100000 in
set_option maxHeartbeats 2000000 in
theorem toReqS_c (v : Value) (zs : List Rq) (w : World) (h : IsSl w v 5 Rq.cs zs) (hn : zs.length ≤ 1048576) :
    Calls Try.prog 64 #[v] w (Copied 34 Rq.cs zs w) := by
  obtain ⟨a, cap, rfl, hlc, hm, hr⟩ := h
  have HR := Lib.hid hr
  clear hr
  unfold maxLen at hm
  generalize hnn : zs.length = n at *
  have hmk := make_Req w n hn
  go_enter Try.func64, Try.ntmps64
  go_wp2_with fail
  obtain ⟨W, hW, sW, aW, kW⟩ := blocks1 w (.cells (flat Rq.cs (List.replicate n ⟨0, 0, 0, 0, 0⟩)) 34)
  rw [← hW]
  clear hW hmk
  go_loopw [4] (fun i wr => ∃ (k : Nat) (ys : List Rq), k ≤ n ∧ i = .int .i64 k ∧ ys.length = zs.length ∧ (∀ j, j < k → ys[j]? = zs[j]?) ∧ wr.heap[w.heap.size]? = some (.cells (flat Rq.cs ys) 34 (0, 0)) ∧ Below w.heap.size w wr) (fun i _ => n - (intOf i).toNat)
  case atStart => exact ⟨0, List.replicate n ⟨0, 0, 0, 0, 0⟩, Nat.zero_le _, rfl, by simp [hnn], fun j hj => absurd hj (Nat.not_lt_zero j), aW, kW⟩
  case round =>
    obtain ⟨k, ys, hk, rfl, hl, hal, hB, hbel⟩ := hrel
    have hlB := lt_of_block hB
    by_cases hlt : k < n
    · have hkz : k < zs.length := by omega
      obtain ⟨b, off, rfl, hbl, hca⟩ := HR.out k hkz
      have hc : ∀ j, j < 5 → wr.cell? ⟨b, off + k * 5 + j, none⟩ = zs[k].cs[j]? := fun j hj => (hbel.cell (p := ⟨b, off + k * 5 + j, none⟩) hbl).trans (hca j hj)
      have hal' := alike_next hkz (by omega) hal
      have hset := flat_five_set ys k (by omega) zs[k]
      clear hca
      generalize zs[k] = z at *
      have c0 : wr.cell? ⟨b, off + k * 5, none⟩ = some (.int .i64 z.c) := hc 0 (by decide)
      have c1 : wr.cell? ⟨b, off + k * 5 + 1, none⟩ = some (.int .i64 z.n) := hc 1 (by decide)
      have c2 : wr.cell? ⟨b, off + k * 5 + 2, none⟩ = some (.int .i64 z.o) := hc 2 (by decide)
      have c3 : wr.cell? ⟨b, off + k * 5 + 3, none⟩ = some (.int .i64 z.x) := hc 3 (by decide)
      have c4 : wr.cell? ⟨b, off + k * 5 + 4, none⟩ = some (.int .i64 z.y) := hc 4 (by decide)
      clear hc
      have HB := Lib.hid hB
      have HA := Lib.hid hal'
      clear hB hal hal'
      go_wp2_with fail
      refine (toReq_c z.c z.n z.o z.x z.y _).mono ?_
      rintro e w1 ⟨rfl, k1⟩
      have hbel1 := below_next hbel k1
      have hB1 := carryB k1 hlB HB.out
      have hky : k < ys.length := by omega
      have hd : ∀ j, j < 5 → w1.cell? ⟨w.heap.size, k * 5 + j, none⟩ = ys[k].cs[j]? := fun j hj => by
        rw [cell_of_block hB1]
        exact flat_get five_len ys k hky j hj
      generalize ys[k] = y at *
      have d0 : w1.cell? ⟨w.heap.size, k * 5, none⟩ = some (.int .i64 y.c) := hd 0 (by decide)
      have d1 : w1.cell? ⟨w.heap.size, k * 5 + 1, none⟩ = some (.int .i64 y.n) := hd 1 (by decide)
      have d2 : w1.cell? ⟨w.heap.size, k * 5 + 2, none⟩ = some (.int .i64 y.o) := hd 2 (by decide)
      have d3 : w1.cell? ⟨w.heap.size, k * 5 + 3, none⟩ = some (.int .i64 y.x) := hd 3 (by decide)
      have d4 : w1.cell? ⟨w.heap.size, k * 5 + 4, none⟩ = some (.int .i64 y.y) := hd 4 (by decide)
      have hf := unfrozen_of_block hB1
      have hB' := block_setCell (i := k * 5 + 4) (block_setCell (i := k * 5 + 3) (block_setCell (i := k * 5 + 2) (block_setCell (i := k * 5 + 1) (block_setCell (i := k * 5) hB1 (.int .i64 z.c)) (.int .i64 z.n)) (.int .i64 z.o)) (.int .i64 z.x)) (.int .i64 z.y)
      rw [hset] at hB'
      have HB' := Lib.hid hB'
      have hle : w.heap.size ≤ w.heap.size := Nat.le_refl _
      clear c0 c1 c2 c3 c4 hd hB' hB1 hset
      go_wp2_with fail
      go_roundw
      case rel => exact ⟨k + 1, ys.set k z, by omega, by go_num, by simpa using hl, HA.out, HB'.out, (by repeat' (first | with_reducible exact Below.refl _ _ | with_reducible assumption | with_reducible refine Below.alloc ?_ ?_ _ | with_reducible refine Below.drew ?_ | with_reducible refine Below.setCell ?_ ?_ _ | omega | (simp; omega) | (simp; done)))⟩
      case measure => simp [intOf]; omega
    · have e := alike_all hl hal (by omega)
      subst e
      go_wp2
      go_ret
      unfold Copied
      rw [hnn]
      exact ⟨rfl, hB, hbel⟩


set_option maxHeartbeats 400000 in
theorem toEnt_c (c n o x y : Int) (w : World) :
    Calls Try.prog 125 #[.agg #[.int .i64 c, .int .i64 n, .int .i64 o, .int .i64 x, .int .i64 y]] w fun e w' => e = .returned (.agg #[.int .i64 c, .int .i64 n, .int .i64 o, .int .i64 x, .int .i64 y]) ∧ Below w.heap.size w w' := by
  go_enter Try.func125, Try.ntmps125
  go_wp2
  refine bodyPost_ret (v := .agg #[.int .i64 c, .int .i64 n, .int .i64 o, .int .i64 x, .int .i64 y]) (by simp [results, Try.results125, go_sem]) rfl ?_
  exact ⟨rfl, (by repeat' (first | with_reducible exact Below.refl _ _ | with_reducible assumption | with_reducible refine Below.alloc ?_ ?_ _ | with_reducible refine Below.drew ?_ | with_reducible refine Below.setCell ?_ ?_ _ | omega | (simp; omega) | (simp; done)))⟩


theorem infoEnt : (Try.prog.info? 92).map (fun i => (i.zero, i.size, i.bytes)) = some (some (.agg #[.int .i64 0, .int .i64 0, .int .i64 0, .int .i64 0, .int .i64 0]), 5, 40) := by kernel_rfl

theorem make_Ent (w : World) (n : Nat) (h : n ≤ 1048576) : (Instr.makeSlice 43 (.int .i64 (n : Int)) (.int .i64 (n : Int))).run Try.prog w = .ok (.slice (some ⟨w.heap.size, 0, none⟩) n n) (w.alloc (.cells (flat Rq.cs (List.replicate n ⟨0, 0, 0, 0, 0⟩)) 92)) := by
  obtain ⟨i0, hi, hz0, hz1, hz2⟩ := info_parts infoEnt
  have := run_make (P := Try.prog) (w := w) 43 92 i0 _ Try.underlying43 hi hz0 .i64 .i64 (n : Int) (n : Int) (by omega) (by omega) (by rw [hz2]; omega) (by omega)
  rw [hz1] at this
  rw [← made_five]
  simpa [Value.cells] using this

set_option maxRecDepth 100000 in
set_option maxHeartbeats 2000000 in
theorem toEntS_c (v : Value) (zs : List Rq) (w : World) (h : IsSl w v 5 Rq.cs zs) (hn : zs.length ≤ 1048576) :
    Calls Try.prog 99 #[v] w (Copied 92 Rq.cs zs w) := by
  obtain ⟨a, cap, rfl, hlc, hm, hr⟩ := h
  have HR := Lib.hid hr
  clear hr
  unfold maxLen at hm
  generalize hnn : zs.length = n at *
  have hmk := make_Ent w n hn
  go_enter Try.func99, Try.ntmps99
  go_wp2_with fail
  obtain ⟨W, hW, sW, aW, kW⟩ := blocks1 w (.cells (flat Rq.cs (List.replicate n ⟨0, 0, 0, 0, 0⟩)) 92)
  rw [← hW]
  clear hW hmk
  go_loopw [4] (fun i wr => ∃ (k : Nat) (ys : List Rq), k ≤ n ∧ i = .int .i64 k ∧ ys.length = zs.length ∧ (∀ j, j < k → ys[j]? = zs[j]?) ∧ wr.heap[w.heap.size]? = some (.cells (flat Rq.cs ys) 92 (0, 0)) ∧ Below w.heap.size w wr) (fun i _ => n - (intOf i).toNat)
  case atStart => exact ⟨0, List.replicate n ⟨0, 0, 0, 0, 0⟩, Nat.zero_le _, rfl, by simp [hnn], fun j hj => absurd hj (Nat.not_lt_zero j), aW, kW⟩
  case round =>
    obtain ⟨k, ys, hk, rfl, hl, hal, hB, hbel⟩ := hrel
    have hlB := lt_of_block hB
    by_cases hlt : k < n
    · have hkz : k < zs.length := by omega
      obtain ⟨b, off, rfl, hbl, hca⟩ := HR.out k hkz
      have hc : ∀ j, j < 5 → wr.cell? ⟨b, off + k * 5 + j, none⟩ = zs[k].cs[j]? := fun j hj => (hbel.cell (p := ⟨b, off + k * 5 + j, none⟩) hbl).trans (hca j hj)
      have hal' := alike_next hkz (by omega) hal
      have hset := flat_five_set ys k (by omega) zs[k]
      clear hca
      generalize zs[k] = z at *
      have c0 : wr.cell? ⟨b, off + k * 5, none⟩ = some (.int .i64 z.c) := hc 0 (by decide)
      have c1 : wr.cell? ⟨b, off + k * 5 + 1, none⟩ = some (.int .i64 z.n) := hc 1 (by decide)
      have c2 : wr.cell? ⟨b, off + k * 5 + 2, none⟩ = some (.int .i64 z.o) := hc 2 (by decide)
      have c3 : wr.cell? ⟨b, off + k * 5 + 3, none⟩ = some (.int .i64 z.x) := hc 3 (by decide)
      have c4 : wr.cell? ⟨b, off + k * 5 + 4, none⟩ = some (.int .i64 z.y) := hc 4 (by decide)
      clear hc
      have HB := Lib.hid hB
      have HA := Lib.hid hal'
      clear hB hal hal'
      go_wp2_with fail
      refine (toEnt_c z.c z.n z.o z.x z.y _).mono ?_
      rintro e w1 ⟨rfl, k1⟩
      have hbel1 := below_next hbel k1
      have hB1 := carryB k1 hlB HB.out
      have hky : k < ys.length := by omega
      have hd : ∀ j, j < 5 → w1.cell? ⟨w.heap.size, k * 5 + j, none⟩ = ys[k].cs[j]? := fun j hj => by
        rw [cell_of_block hB1]
        exact flat_get five_len ys k hky j hj
      generalize ys[k] = y at *
      have d0 : w1.cell? ⟨w.heap.size, k * 5, none⟩ = some (.int .i64 y.c) := hd 0 (by decide)
      have d1 : w1.cell? ⟨w.heap.size, k * 5 + 1, none⟩ = some (.int .i64 y.n) := hd 1 (by decide)
      have d2 : w1.cell? ⟨w.heap.size, k * 5 + 2, none⟩ = some (.int .i64 y.o) := hd 2 (by decide)
      have d3 : w1.cell? ⟨w.heap.size, k * 5 + 3, none⟩ = some (.int .i64 y.x) := hd 3 (by decide)
      have d4 : w1.cell? ⟨w.heap.size, k * 5 + 4, none⟩ = some (.int .i64 y.y) := hd 4 (by decide)
      have hf := unfrozen_of_block hB1
      have hB' := block_setCell (i := k * 5 + 4) (block_setCell (i := k * 5 + 3) (block_setCell (i := k * 5 + 2) (block_setCell (i := k * 5 + 1) (block_setCell (i := k * 5) hB1 (.int .i64 z.c)) (.int .i64 z.n)) (.int .i64 z.o)) (.int .i64 z.x)) (.int .i64 z.y)
      rw [hset] at hB'
      have HB' := Lib.hid hB'
      have hle : w.heap.size ≤ w.heap.size := Nat.le_refl _
      clear c0 c1 c2 c3 c4 hd hB' hB1 hset
      go_wp2_with fail
      go_roundw
      case rel => exact ⟨k + 1, ys.set k z, by omega, by go_num, by simpa using hl, HA.out, HB'.out, (by repeat' (first | with_reducible exact Below.refl _ _ | with_reducible assumption | with_reducible refine Below.alloc ?_ ?_ _ | with_reducible refine Below.drew ?_ | with_reducible refine Below.setCell ?_ ?_ _ | omega | (simp; omega) | (simp; done)))⟩
      case measure => simp [intOf]; omega
    · have e := alike_all hl hal (by omega)
      subst e
      go_wp2
      go_ret
      unfold Copied
      rw [hnn]
      exact ⟨rfl, hB, hbel⟩

end Go.Proofs.Ytofedboeggdkaaa
