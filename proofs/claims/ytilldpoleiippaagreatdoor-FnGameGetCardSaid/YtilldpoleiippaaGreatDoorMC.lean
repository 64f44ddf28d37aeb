/- Contracts of the reader of drawn bytes (l20Open, pick, one, of): whatever it reads, a number in range; condition: fewer than 2^40 reads. | Contracts of the drawn requests; condition: fewer than 2^40 reads. | Contracts of l20Open, one, l20AnyReq; condition: fewer than 2^40 reads. -/
import Derived.Test.YtilldpoleiippaaGreatDoorMA
import Derived.Deep.QuietTactic
import Derived.BigQuiet
import Derived.LoopTactic
set_option linter.unusedSimpArgs false
set_option linter.unusedVariables false
/-! Contracts of the reader of drawn bytes (l20Open, pick, one, of): whatever it reads, a number in range; condition: fewer than 2^40 reads. -/
namespace Go.Proofs.YtilldpoleiippaaGreatDoor
open Go.RowKit Go.Joins

/-- The reader in block g: its bytes, below g, can be read; it has read at most P times. -/
def Rdr (w : World) (g P : Nat) : Prop :=
  ∃ (a : Option Addr) (len cap p : Nat), w.heap[g]? = some (.cells #[.slice a len cap, .int .i64 p] 55 (0, 0)) ∧ p ≤ P ∧ len ≤ 2000 ∧ len ≤ cap ∧ cap ≤ maxLen ∧
    ∀ i, i < len → ∃ (b off : Nat) (x : Int), a = some ⟨b, off, none⟩ ∧ b < g ∧ 0 ≤ x ∧ x ≤ 255 ∧ w.cell? ⟨b, off + i, none⟩ = some (.int .u8 x)

/-- A number in range; the reader has moved on by one; nothing else that was there has turned. -/
def Picked (w : World) (g P : Nat) (n : Int) (e : Ending) (w' : World) : Prop :=
  ∃ v : Int, e = .returned (.int .i64 v) ∧ 0 ≤ v ∧ (1 ≤ n → v < n) ∧ (n < 1 → v = 0) ∧ Rdr w' g (P + 1) ∧ w.grownBy w' (some g)

theorem grown_refl (w : World) (row : Option Nat) : w.grownBy w row := ⟨rfl, rfl, rfl, Nat.le_refl _, fun _ _ _ => rfl⟩
theorem grown_trans {a b c : World} {row : Option Nat} (h : a.grownBy b row) (k : b.grownBy c row) : a.grownBy c row :=
  ⟨k.os.trans h.os, k.tape.trans h.tape, k.output.trans h.output, Nat.le_trans h.size k.size, fun i hi hne => (k.block i (Nat.lt_of_lt_of_le hi h.size) hne).trans (h.block i hi hne)⟩
theorem grown_of_below {a w : World} (h : Below a.heap.size a w) (row : Option Nat) : a.grownBy w row := ⟨h.os, h.tape, h.output, h.size, fun i hi _ => h.block i hi⟩
theorem grown_drewN {a w : World} {row : Option Nat} (h : a.grownBy w row) (n : Nat) : a.grownBy (w.drewN n) row := ⟨h.os, h.tape, h.output, h.size, h.block⟩
theorem grown_setCell {a w : World} {g : Nat} (h : a.grownBy w (some g)) {p : Addr} (hp : p.block = g ∨ a.heap.size ≤ p.block) (u : Value) : a.grownBy (w.setCell p u) (some g) :=
  ⟨h.os, h.tape, h.output, by simpa [World.setCell] using h.size, fun i hi hne => (Below.heap_setCell w p u i (by
    rintro rfl
    rcases hp with hp | hp
    · exact hne (by rw [hp])
    · omega)).trans (h.block i hi hne)⟩

theorem gcell {W w1 : World} {g : Nat} (h : W.grownBy w1 (some g)) :
    (∀ b o, b < W.heap.size → b ≠ g → w1.cell? ⟨b, o, none⟩ = W.cell? ⟨b, o, none⟩) ∧ (∀ b o, b < W.heap.size → b ≠ g → w1.frozen? ⟨b, o, none⟩ = W.frozen? ⟨b, o, none⟩) :=
  ⟨fun b o hb hne => World.cell?_of_block (w := W) (a := ⟨b, o, none⟩) (h.block b hb (fun e => hne (by injection e))), fun b o hb hne => World.frozen?_of_block (w := W) (a := ⟨b, o, none⟩) (h.block b hb (fun e => hne (by injection e)))⟩
theorem Rdr.below {w w' : World} {g P : Nat} (h : Rdr w g P) (k : Below (g + 1) w w') : Rdr w' g P := by
  obtain ⟨a, len, cap, p, hg, hp, hl, hlc, hm, hc⟩ := h
  refine ⟨a, len, cap, p, by rw [k.block g (by omega)]; exact hg, hp, hl, hlc, hm, fun i hi => ?_⟩
  obtain ⟨b, off, x, h1, h2, h3, h4, h5⟩ := hc i hi
  exact ⟨b, off, x, h1, h2, h3, h4, by rw [k.cell (p := ⟨b, off + i, none⟩) (by show b < g + 1; omega)]; exact h5⟩
theorem Rdr.mono {w : World} {g P Q : Nat} (h : Rdr w g P) (k : P ≤ Q) : Rdr w g Q := by
  obtain ⟨a, len, cap, p, hg, hp, r⟩ := h
  exact ⟨a, len, cap, p, hg, Nat.le_trans hp k, r⟩
theorem Rdr.lt {w : World} {g P : Nat} (h : Rdr w g P) : g < w.heap.size := by
  obtain ⟨a, len, cap, p, hg, _⟩ := h
  exact lt_of_block hg

theorem grown_alloc {a w : World} {row : Option Nat} (h : a.grownBy w row) (o : Obj) : a.grownBy (w.alloc o) row :=
  ⟨h.os, h.tape, h.output, Nat.le_trans h.size (by simp), fun i hi hne => (Below.heap_alloc w o i (Nat.lt_of_lt_of_le hi h.size)).trans (h.block i hi hne)⟩
theorem grown_drew {a w : World} {row : Option Nat} (h : a.grownBy w row) : a.grownBy w.drew row := ⟨h.os, h.tape, h.output, h.size, h.block⟩

theorem bel_grown {a w w' : World} {g : Nat} (h : Below a.heap.size a w) (k : w.grownBy w' (some g)) (hg : a.heap.size ≤ g) : Below a.heap.size a w' :=
  h.grown k h.size (fun b e => by injection e with e; omega)

/-- A block that was there, other than g, is there still. -/
theorem carry {W w1 : World} {g b : Nat} {o : Obj} (k : W.grownBy w1 (some g)) (hne : b ≠ g) (h : W.heap[b]? = some o) : w1.heap[b]? = some o :=
  (k.block b (lt_of_block h) (fun e => hne (by injection e))).trans h

/-- The store of the new count. -/
theorem Rdr.step {w : World} {a : Option Addr} {g P len cap p : Nat} (hg : w.heap[g]? = some (.cells #[.slice a len cap, .int .i64 p] 55 (0, 0))) (hp : p ≤ P) (hl : len ≤ 2000) (hlc : len ≤ cap) (hm : cap ≤ maxLen)
    (hc : ∀ i, i < len → ∃ (b off : Nat) (x : Int), a = some ⟨b, off, none⟩ ∧ b < g ∧ 0 ≤ x ∧ x ≤ 255 ∧ w.cell? ⟨b, off + i, none⟩ = some (.int .u8 x)) (n : Nat) :
    Rdr ((w.setCell ⟨g, 1, none⟩ (.int .i64 ((p : Int) + 1))).drewN n) g (P + 1) ∧ w.grownBy ((w.setCell ⟨g, 1, none⟩ (.int .i64 ((p : Int) + 1))).drewN n) (some g) := by
  refine ⟨⟨a, len, cap, p + 1, ?_, by omega, hl, hlc, hm, fun i hi => ?_⟩, grown_drewN (grown_setCell (grown_refl w _) (.inl rfl) _) n⟩
  · have := block_setCell (i := 1) hg (.int .i64 ((p : Int) + 1))
    exact this
  · obtain ⟨b, off, x, h1, h2, h3, h4, h5⟩ := hc i hi
    refine ⟨b, off, x, h1, h2, h3, h4, ?_⟩
    have := Below.heap_setCell w ⟨g, 1, none⟩ (.int .i64 ((p : Int) + 1)) b (by show b ≠ g; omega)
    show ((w.setCell ⟨g, 1, none⟩ (.int .i64 ((p : Int) + 1))).drewN n).cell? ⟨b, off + i, none⟩ = _
    rw [← h5]
    exact World.cell?_of_block (w := w) (w' := (w.setCell ⟨g, 1, none⟩ (.int .i64 ((p : Int) + 1))).drewN n) (a := ⟨b, off + i, none⟩) this

set_option maxRecDepth 100000 in
set_option maxHeartbeats 4000000 in
theorem pick_c (w : World) (g P : Nat) (n : Int) (hr : Rdr w g P) (hP : P ≤ 1099511627776) (hn : n ≤ 4611686018427387904) :
    Calls Tryz.prog 13 #[.pointer (some ⟨g, 0, none⟩), .int .i64 n] w (Picked w g P n) := by
  obtain ⟨a, len, cap, p, hg, hp, hl, hlc, hm, hc⟩ := hr
  have HS := Lib.hid (Rdr.step (P := P) hg hp hl hlc hm hc)
  have c0 : w.cell? ⟨g, 0, none⟩ = some (.slice a len cap) := by rw [cell_of_block hg]; rfl
  have c1 : w.cell? ⟨g, 1, none⟩ = some (.int .i64 p) := by rw [cell_of_block hg]; rfl
  have f1 : w.frozen? ⟨g, 1, none⟩ = false := unfrozen_of_block hg 1
  have HC := Lib.hid hc
  have HG := Lib.hid hg
  clear hc hg
  unfold maxLen at hm
  by_cases hn1 : n < 1
  · go_enter Tryz.func13, Tryz.ntmps13
    go_wp2_with fail
    go_ret
    exact ⟨0, rfl, Int.le_refl _, fun h => by omega, fun _ => rfl, (HS.out 0).1, (HS.out 0).2⟩
  · by_cases hl0 : len = 0
    · subst hl0
      go_enter Tryz.func13, Tryz.ntmps13
      go_wp2_with fail
      go_ret
      exact ⟨0, rfl, Int.le_refl _, fun h => by omega, fun _ => rfl, (HS.out 0).1, (HS.out 0).2⟩
    · have hll : ((len : Int) == 0) = false := by simp; omega
      have hnz : 1 ≤ n := by omega
      by_cases hk : p < len
      · obtain ⟨b, off, x, rfl, hbg, hx0, hx1, hcell⟩ := HC.out p hk
        have hne : ¬ b = g := by omega
        have hne' : ¬ g = b := by omega
        go_enter Tryz.func13, Tryz.ntmps13
        go_wp2_with fail
        go_ret
        exact ⟨x % n, rfl, Int.emod_nonneg _ (by omega), fun _ => Int.emod_lt_of_pos _ (by omega), fun h => by omega, (HS.out 0).1, (HS.out 0).2⟩
      · obtain ⟨b, off, x, rfl, hbg, hx0, hx1, hcell⟩ := HC.out (p % len) (Nat.mod_lt _ (by omega))
        obtain ⟨b', off', y, hbb, hbg', hy0, hy1, hcell'⟩ := HC.out ((p * 7 + 3) % len) (Nat.mod_lt _ (by omega))
        simp only [Option.some.injEq, Addr.mk.injEq, and_true] at hbb
        obtain ⟨rfl, rfl⟩ := hbb
        have hne : ¬ b = g := by omega
        have hne' : ¬ g = b := by omega
        have L1 : (1 : Int) ≤ len := by omega
        have L2 : (0 : Int) ≤ p := by omega
        have L3 : (p : Int) ≤ 1099511627776 := by omega
        have M1 : (p : Int).tmod len = (p : Int) % len := Int.tmod_eq_emod_of_nonneg L2
        have M2 : ((p : Int) * 7 + 3).tmod len = ((p : Int) * 7 + 3) % len := Int.tmod_eq_emod_of_nonneg (by omega)
        have D1 : (p : Int).tdiv len = (p : Int) / len := Int.tdiv_eq_ediv_of_nonneg L2
        have B1 : 0 ≤ (p : Int) % len := Int.emod_nonneg _ (by omega)
        have B2 : (p : Int) % len < len := Int.emod_lt_of_pos _ (by omega)
        have B3 : 0 ≤ ((p : Int) * 7 + 3) % len := Int.emod_nonneg _ (by omega)
        have B4 : ((p : Int) * 7 + 3) % len < len := Int.emod_lt_of_pos _ (by omega)
        have B5 : 0 ≤ (p : Int) / len := Int.ediv_nonneg L2 (by omega)
        have B6 : (p : Int) / len ≤ p := Int.ediv_le_self _ L2
        have N1 : ((p : Int) % len).toNat = p % len := by rw [← Int.natCast_emod]; rfl
        have N2 : (((p : Int) * 7 + 3) % len).toNat = (p * 7 + 3) % len := by
          have : ((p : Int) * 7 + 3) % len = (((p * 7 + 3) % len : Nat) : Int) := by rw [Int.natCast_emod]; rfl
          rw [this]; rfl
        have W1 : IntKind.i64.wrap (x * 131) = x * 131 := IntWalk.i64_in _ ⟨by omega, by omega⟩
        have W2 : IntKind.i64.wrap ((p : Int) * 7) = (p : Int) * 7 := IntWalk.i64_in _ ⟨by omega, by omega⟩
        have W3 : IntKind.i64.wrap ((p : Int) * 7 + 3) = (p : Int) * 7 + 3 := IntWalk.i64_in _ ⟨by omega, by omega⟩
        have W4 : IntKind.i64.wrap (y * 1117) = y * 1117 := IntWalk.i64_in _ ⟨by omega, by omega⟩
        have W5 : IntKind.i64.wrap (x * 131 + y * 1117) = x * 131 + y * 1117 := IntWalk.i64_in _ ⟨by omega, by omega⟩
        have W6 : IntKind.i64.wrap ((p : Int) * 29) = (p : Int) * 29 := IntWalk.i64_in _ ⟨by omega, by omega⟩
        have W7 : IntKind.i64.wrap (x * 131 + y * 1117 + (p : Int) * 29) = x * 131 + y * 1117 + (p : Int) * 29 := IntWalk.i64_in _ ⟨by omega, by omega⟩
        have W8 : IntKind.i64.wrap ((p : Int) / len * 53) = (p : Int) / len * 53 := IntWalk.i64_in _ ⟨by omega, by omega⟩
        have W9 : IntKind.i64.wrap (x * 131 + y * 1117 + (p : Int) * 29 + (p : Int) / len * 53) = x * 131 + y * 1117 + (p : Int) * 29 + (p : Int) / len * 53 := IntWalk.i64_in _ ⟨by omega, by omega⟩
        have Q1 : IntKind.i64.wrap ((p : Int) / len) = (p : Int) / len := IntWalk.i64_in _ ⟨by omega, by omega⟩
        go_enter Tryz.func13, Tryz.ntmps13
        go_wp2_with fail
        go_quiet (fail)
        obtain ⟨t, ht⟩ : ∃ t : Nat, x * 131 + y * 1117 + (p : Int) * 29 + (p : Int) / len * 53 = (t : Int) := ⟨_, (Int.toNat_of_nonneg (by omega)).symm⟩
        have ht1 : t < 4611686018427387904 := by omega
        rw [ht]
        clear W1 W2 W3 W4 W5 W6 W7 W8 W9 Q1 M1 M2 D1 N1 N2 ht B1 B2 B3 B4 B5 B6 hcell hcell'
        have HX : bits .xor .i64 (t : Int) ((t : Int) / 64) = ((t ^^^ t / 64 : Nat) : Int) := i64_xor_nat t (t / 64) (by omega) (by omega)
        generalize t ^^^ t / 64 = s at *
        go_wp2_with fail
        go_ret
        exact ⟨(s : Int) % n, rfl, Int.emod_nonneg _ (by omega), fun _ => Int.emod_lt_of_pos _ (by omega), fun h => by omega, (HS.out nq).1, (HS.out nq).2⟩
end Go.Proofs.YtilldpoleiippaaGreatDoor

/-! Contracts of the drawn requests; condition: fewer than 2^40 reads. -/
namespace Go.Proofs.YtilldpoleiippaaGreatDoor
open Go.RowKit Go.Joins

/-- A valid request of a client from 1 to 3; the reader has moved on; nothing else has turned. -/
def ReqDrawn (w : World) (g P : Nat) (e : Ending) (w' : World) : Prop :=
  ∃ r : Rq, e = .returned (.agg #[.int .i64 r.c, .int .i64 r.n, .int .i64 r.o, .int .i64 r.x, .int .i64 r.y]) ∧ okB r.c r.n r.o r.x r.y = true ∧ r.c ≤ 3 ∧ Rdr w' g (P + 5) ∧ w.grownBy w' (some g)


set_option maxRecDepth 100000 in
set_option maxHeartbeats 2000000 in
theorem l20Req_c (w : World) (g P : Nat) (hr : Rdr w g P) (hP : P ≤ 1099511627000) :
    Calls Tryz.prog 52 #[.pointer (some ⟨g, 0, none⟩)] w (ReqDrawn w g P) := by
  have hlt := hr.lt
  go_enter Tryz.func52, Tryz.ntmps52
  go_wp2_with fail
  refine (pick_c _ g P 3 (hr.below (by repeat' (first | with_reducible exact Below.refl _ _ | with_reducible assumption | with_reducible refine Below.alloc ?_ ?_ _ | with_reducible refine Below.drew ?_ | with_reducible refine Below.setCell ?_ ?_ _ | omega | (simp; omega) | (simp; done)))) (by omega) (by omega)).mono ?_
  rintro e w1 ⟨v1, rfl, a1, b1, -, r1, k1⟩
  replace b1 := b1 (by omega)
  go_wp2_with fail
  refine (pick_c _ g (P + 1) 6 r1 (by omega) (by omega)).mono ?_
  rintro e w2 ⟨v2, rfl, a2, b2, -, r2, k2⟩
  replace b2 := b2 (by omega)
  go_wp2_with fail
  refine (pick_c _ g (P + 1 + 1) 5 r2 (by omega) (by omega)).mono ?_
  rintro e w3 ⟨v3, rfl, a3, b3, -, r3, k3⟩
  replace b3 := b3 (by omega)
  have k := grown_trans (grown_trans k1 k2) k3
  have hsz := k.size
  have hlt3 := r3.lt
  rw [World.size_alloc] at hsz
  have hne : w.heap.size ≠ g := by omega
  have hne3 : w3.heap.size ≠ g := by omega
  have hlt4 : w.heap.size < w3.heap.size := by omega
  have hlt5 : w.heap.size ≠ w3.heap.size := by omega
  have HR := Lib.hid (carry k hne (heap_alloc_new w _))
  have hc := cell_of_block HR.out
  have hf := unfrozen_of_block HR.out
  have K : w.grownBy w3 (some g) := grown_trans (grown_of_below (by repeat' (first | with_reducible exact Below.refl _ _ | with_reducible assumption | with_reducible refine Below.alloc ?_ ?_ _ | with_reducible refine Below.drew ?_ | with_reducible refine Below.setCell ?_ ?_ _ | omega | (simp; omega) | (simp; done))) _) k
  clear k1 k2 k3 r1 r2 k
  have h5 : v3 = 0 ∨ v3 = 1 ∨ v3 = 2 ∨ v3 = 3 ∨ v3 = 4 := by omega
  rcases h5 with rfl | rfl | rfl | rfl | rfl
  · go_wp2_with fail
    refine bodyPost_ret (v := .agg #[.int .i64 (1 + v1), .int .i64 (1 + v2), .int .i64 1, .int .i64 0, .int .i64 0]) (by simp [results, Tryz.results52, go_sem, hc, hlt4]) rfl ?_
    exact ⟨⟨1 + v1, 1 + v2, 1, 0, 0⟩, rfl, by simp [okB, inB]; omega, by show 1 + v1 ≤ 3; omega, (r3.below (by repeat' (first | with_reducible exact Below.refl _ _ | with_reducible assumption | with_reducible refine Below.alloc ?_ ?_ _ | with_reducible refine Below.drew ?_ | with_reducible refine Below.setCell ?_ ?_ _ | omega | (simp; omega) | (simp; done)))).mono (by omega), by repeat (first | with_reducible exact K | with_reducible refine grown_alloc ?_ _ | with_reducible refine grown_setCell ?_ (.inr (Nat.le_refl _)) _)⟩
  · go_wp2_with fail
    refine (pick_c _ g (P + 1 + 1 + 1) 3 (r3.below (by repeat' (first | with_reducible exact Below.refl _ _ | with_reducible assumption | with_reducible refine Below.alloc ?_ ?_ _ | with_reducible refine Below.drew ?_ | with_reducible refine Below.setCell ?_ ?_ _ | omega | (simp; omega) | (simp; done)))) (by omega) (by omega)).mono ?_
    rintro e w4 ⟨v4, rfl, a4, b4, -, r4, k4⟩
    replace b4 := b4 (by omega)
    have hs4 := k4.size
    rw [World.size_alloc] at hs4
    have hl4 : w3.heap.size < w4.heap.size := by omega
    have hX := carry k4 hne3 (heap_alloc_new w3 _)
    have hcX := cell_of_block hX
    have hfX := unfrozen_of_block hX
    have HX := Lib.hid hX
    have HR4 := Lib.hid (carry k4 hne (by rw [Below.heap_alloc _ _ _ hlt4]; exact HR.out))
    have K4 : w.grownBy w4 (some g) := grown_trans (grown_alloc K _) k4
    clear hc hf hX k4 r3
    go_wp2_with fail
    refine (pick_c _ g (P + 1 + 1 + 1 + 1) 3 (r4.below (by repeat' (first | with_reducible exact Below.refl _ _ | with_reducible assumption | with_reducible refine Below.alloc ?_ ?_ _ | with_reducible refine Below.drew ?_ | with_reducible refine Below.setCell ?_ ?_ _ | omega | (simp; omega) | (simp; done)))) (by omega) (by omega)).mono ?_
    rintro e w5 ⟨v5, rfl, a5, b5, -, r5, k5⟩
    replace b5 := b5 (by omega)
    have hs5 := k5.size
    rw [World.size_setCell] at hs5
    have hX5 := carry k5 hne3 (block_setCell (i := 3) HX.out _)
    have HR5 := carry k5 hne (by rw [Below.heap_setCell _ _ _ _ (by simp; omega)]; exact HR4.out)
    have hc := cell_of_block HR5
    have hf := unfrozen_of_block HR5
    have hcX5 := cell_of_block hX5
    have hfX5 := unfrozen_of_block hX5
    have K5 : w.grownBy w5 (some g) := grown_trans (by repeat (first | with_reducible exact K4 | with_reducible refine grown_setCell ?_ (.inr (by simp; omega)) _)) k5
    clear hcX hfX hX5 HR5 k5 r4
    go_wp2_with fail
    refine bodyPost_ret (v := .agg #[.int .i64 (1 + v1), .int .i64 (1 + v2), .int .i64 2, .int .i64 (v4 - 1), .int .i64 (v5 - 1)]) (by simp [results, Tryz.results52, go_sem, hc]) rfl ?_
    exact ⟨⟨1 + v1, 1 + v2, 2, v4 - 1, v5 - 1⟩, rfl, by simp [okB, inB]; omega, by show 1 + v1 ≤ 3; omega, (r5.below (by repeat' (first | with_reducible exact Below.refl _ _ | with_reducible assumption | with_reducible refine Below.alloc ?_ ?_ _ | with_reducible refine Below.drew ?_ | with_reducible refine Below.setCell ?_ ?_ _ | omega | (simp; omega) | (simp; done)))).mono (by omega), by repeat (first | with_reducible exact K5 | with_reducible refine grown_alloc ?_ _ | with_reducible refine grown_setCell ?_ (.inr (by simp; try omega)) _)⟩
  · go_wp2_with fail
    refine bodyPost_ret (v := .agg #[.int .i64 (1 + v1), .int .i64 (1 + v2), .int .i64 3, .int .i64 0, .int .i64 0]) (by simp [results, Tryz.results52, go_sem, hc, hlt4]) rfl ?_
    exact ⟨⟨1 + v1, 1 + v2, 3, 0, 0⟩, rfl, by simp [okB, inB]; omega, by show 1 + v1 ≤ 3; omega, (r3.below (by repeat' (first | with_reducible exact Below.refl _ _ | with_reducible assumption | with_reducible refine Below.alloc ?_ ?_ _ | with_reducible refine Below.drew ?_ | with_reducible refine Below.setCell ?_ ?_ _ | omega | (simp; omega) | (simp; done)))).mono (by omega), by repeat (first | with_reducible exact K | with_reducible refine grown_alloc ?_ _ | with_reducible refine grown_setCell ?_ (.inr (Nat.le_refl _)) _)⟩
  · go_wp2_with fail
    refine (pick_c _ g (P + 1 + 1 + 1) 3 (r3.below (by repeat' (first | with_reducible exact Below.refl _ _ | with_reducible assumption | with_reducible refine Below.alloc ?_ ?_ _ | with_reducible refine Below.drew ?_ | with_reducible refine Below.setCell ?_ ?_ _ | omega | (simp; omega) | (simp; done)))) (by omega) (by omega)).mono ?_
    rintro e w4 ⟨v4, rfl, a4, b4, -, r4, k4⟩
    replace b4 := b4 (by omega)
    have hs4 := k4.size
    rw [World.size_alloc] at hs4
    have hl4 : w3.heap.size < w4.heap.size := by omega
    have hX := carry k4 hne3 (heap_alloc_new w3 _)
    have hcX := cell_of_block hX
    have hfX := unfrozen_of_block hX
    have HR4 := carry k4 hne (by rw [Below.heap_alloc _ _ _ hlt4]; exact HR.out)
    have hc4 := cell_of_block HR4
    have hf4 := unfrozen_of_block HR4
    have K4 : w.grownBy w4 (some g) := grown_trans (grown_alloc K _) k4
    clear hc hf hX k4 r3 HR4
    go_wp2_with fail
    refine bodyPost_ret (v := .agg #[.int .i64 (1 + v1), .int .i64 (1 + v2), .int .i64 4, .int .i64 (1 + v4), .int .i64 0]) (by simp [results, Tryz.results52, go_sem, hc4]) rfl ?_
    exact ⟨⟨1 + v1, 1 + v2, 4, 1 + v4, 0⟩, rfl, by simp [okB, inB]; omega, by show 1 + v1 ≤ 3; omega, (r4.below (by repeat' (first | with_reducible exact Below.refl _ _ | with_reducible assumption | with_reducible refine Below.alloc ?_ ?_ _ | with_reducible refine Below.drew ?_ | with_reducible refine Below.setCell ?_ ?_ _ | omega | (simp; omega) | (simp; done)))).mono (by omega), by repeat (first | with_reducible exact K4 | with_reducible refine grown_alloc ?_ _ | with_reducible refine grown_setCell ?_ (.inr (by simp; try omega)) _)⟩
  · go_wp2_with fail
    refine (pick_c _ g (P + 1 + 1 + 1) 3 (r3.below (by repeat' (first | with_reducible exact Below.refl _ _ | with_reducible assumption | with_reducible refine Below.alloc ?_ ?_ _ | with_reducible refine Below.drew ?_ | with_reducible refine Below.setCell ?_ ?_ _ | omega | (simp; omega) | (simp; done)))) (by omega) (by omega)).mono ?_
    rintro e w4 ⟨v4, rfl, a4, b4, -, r4, k4⟩
    replace b4 := b4 (by omega)
    have hs4 := k4.size
    rw [World.size_alloc] at hs4
    have hl4 : w3.heap.size < w4.heap.size := by omega
    have hX := carry k4 hne3 (heap_alloc_new w3 _)
    have hcX := cell_of_block hX
    have hfX := unfrozen_of_block hX
    have HX := Lib.hid hX
    have HR4 := Lib.hid (carry k4 hne (by rw [Below.heap_alloc _ _ _ hlt4]; exact HR.out))
    have K4 : w.grownBy w4 (some g) := grown_trans (grown_alloc K _) k4
    clear hc hf hX k4 r3
    go_wp2_with fail
    refine (pick_c _ g (P + 1 + 1 + 1 + 1) 3 (r4.below (by repeat' (first | with_reducible exact Below.refl _ _ | with_reducible assumption | with_reducible refine Below.alloc ?_ ?_ _ | with_reducible refine Below.drew ?_ | with_reducible refine Below.setCell ?_ ?_ _ | omega | (simp; omega) | (simp; done)))) (by omega) (by omega)).mono ?_
    rintro e w5 ⟨v5, rfl, a5, b5, -, r5, k5⟩
    replace b5 := b5 (by omega)
    have hs5 := k5.size
    rw [World.size_setCell] at hs5
    have hX5 := carry k5 hne3 (block_setCell (i := 3) HX.out _)
    have HR5 := carry k5 hne (by rw [Below.heap_setCell _ _ _ _ (by simp; omega)]; exact HR4.out)
    have hc := cell_of_block HR5
    have hf := unfrozen_of_block HR5
    have hcX5 := cell_of_block hX5
    have hfX5 := unfrozen_of_block hX5
    have K5 : w.grownBy w5 (some g) := grown_trans (by repeat (first | with_reducible exact K4 | with_reducible refine grown_setCell ?_ (.inr (by simp; omega)) _)) k5
    clear hcX hfX hX5 HR5 k5 r4
    go_wp2_with fail
    refine bodyPost_ret (v := .agg #[.int .i64 (1 + v1), .int .i64 (1 + v2), .int .i64 5, .int .i64 (1 + v4), .int .i64 (1 + v5)]) (by simp [results, Tryz.results52, go_sem, hc]) rfl ?_
    exact ⟨⟨1 + v1, 1 + v2, 5, 1 + v4, 1 + v5⟩, rfl, by simp [okB, inB]; omega, by show 1 + v1 ≤ 3; omega, (r5.below (by repeat' (first | with_reducible exact Below.refl _ _ | with_reducible assumption | with_reducible refine Below.alloc ?_ ?_ _ | with_reducible refine Below.drew ?_ | with_reducible refine Below.setCell ?_ ?_ _ | omega | (simp; omega) | (simp; done)))).mono (by omega), by repeat (first | with_reducible exact K5 | with_reducible refine grown_alloc ?_ _ | with_reducible refine grown_setCell ?_ (.inr (by simp; try omega)) _)⟩
end Go.Proofs.YtilldpoleiippaaGreatDoor

/-! Contracts of l20Open, one, l20AnyReq; condition: fewer than 2^40 reads. -/
namespace Go.Proofs.YtilldpoleiippaaGreatDoor
open Go.RowKit Go.Joins

/-- A fresh reader over the bytes that came in. -/
def Opened (w : World) (e : Ending) (w' : World) : Prop :=
  ∃ g : Nat, e = .returned (.pointer (some ⟨g, 0, none⟩)) ∧ w.heap.size ≤ g ∧ Rdr w' g 0 ∧ Below w.heap.size w w'

set_option maxHeartbeats 400000 in
theorem l20Open_c (v : Value) (z : Bts) (w : World) (hz : IsBytes w v z) :
    Calls Tryz.prog 10 #[v] w (Opened w) := by
  obtain ⟨rfl, hlc, hm, hc⟩ := hz
  have HC := Lib.hid hc
  clear hc
  obtain ⟨a, len, cap⟩ := z
  simp only at hlc hm HC ⊢
  have hm' : cap ≤ 9223372036854775807 := by unfold maxLen at hm; omega
  by_cases hl : len ≤ 2000
  · go_enter Tryz.func10, Tryz.ntmps10
    go_wp2
    go_ret
    refine ⟨w.heap.size, rfl, Nat.le_refl _, ⟨a, len, cap, 0, heap_alloc_new w _, Nat.le_refl _, hl, hlc, hm, fun i hi => ?_⟩, (by repeat' (first | with_reducible exact Below.refl _ _ | with_reducible assumption | with_reducible refine Below.alloc ?_ ?_ _ | with_reducible refine Below.drew ?_ | with_reducible refine Below.setCell ?_ ?_ _ | omega | (simp; omega) | (simp; done)))⟩
    obtain ⟨b, off, x, h1, h2, h3, h4, h5⟩ := HC.out i hi
    exact ⟨b, off, x, h1, h2, h3, h4, by rw [(Below.alloc (Below.refl w.heap.size w) (Nat.le_refl _) _).cell (p := ⟨b, off + i, none⟩) h2]; exact h5⟩
  · obtain ⟨b, off, x, ha, _⟩ := HC.out 0 (by omega)
    subst ha
    go_enter Tryz.func10, Tryz.ntmps10
    go_wp2
    all_goals go_ret
    all_goals refine ⟨w.heap.size, rfl, Nat.le_refl _, ⟨some ⟨b, off, none⟩, 2000, cap, 0, heap_alloc_new w _, Nat.le_refl _, Nat.le_refl _, by omega, hm, fun i hi => ?_⟩, (by repeat' (first | with_reducible exact Below.refl _ _ | with_reducible assumption | with_reducible refine Below.alloc ?_ ?_ _ | with_reducible refine Below.drew ?_ | with_reducible refine Below.setCell ?_ ?_ _ | omega | (simp; omega) | (simp; done)))⟩
    all_goals obtain ⟨b, off, x, h1, h2, h3, h4, h5⟩ := HC.out i (by omega)
    all_goals exact ⟨b, off, x, h1, h2, h3, h4, by rw [(Below.alloc (Below.refl w.heap.size w) (Nat.le_refl _) _).cell (p := ⟨b, off + i, none⟩) h2]; exact h5⟩

/-- One of the numbers of a list. -/
def OneOf (zs : List Int) (w : World) (g P : Nat) (e : Ending) (w' : World) : Prop :=
  ∃ v : Int, v ∈ zs ∧ e = .returned (.int .i64 v) ∧ Rdr w' g (P + 1) ∧ w.grownBy w' (some g)

set_option maxHeartbeats 400000 in
theorem one_c (w : World) (g P h n : Nat) (t : TypeId) (zs : List Int) (cs : Array Value) (hr : Rdr w g P) (hP : P ≤ 1099511627776) (hne : h ≠ g) (hL : w.heap[h]? = some (.cells cs t (0, 0))) (hcs : cs = (zs.map (Value.int .i64)).toArray) (hn : zs.length = n) (h0 : 0 < n) (h1 : n ≤ 1000) :
    Calls Tryz.prog 33 #[.pointer (some ⟨g, 0, none⟩), .slice (some ⟨h, 0, none⟩) n n] w (OneOf zs w g P) := by
  have HL := Lib.hid hL
  have HN := Lib.hid hn
  have HCS := Lib.hid hcs
  clear hL hn hcs
  go_enter Tryz.func33, Tryz.ntmps33
  go_wp2_with fail
  refine (pick_c _ g P n hr hP (by omega)).mono ?_
  rintro e w1 ⟨v, rfl, a1, b1, -, r1, k1⟩
  replace b1 := b1 (by omega)
  have hL1 := carry k1 hne HL.out
  obtain ⟨m, rfl⟩ := Int.eq_ofNat_of_zero_le a1
  have hmn : m < n := by omega
  have hmz : m < zs.length := by rw [HN.out]; exact hmn
  have hc : w1.cell? ⟨h, m, none⟩ = some (.int .i64 zs[m]) := by
    rw [cell_of_block hL1, HCS.out]
    simp [hmz]
  clear hL1
  go_wp2_with fail
  go_ret
  exact ⟨zs[m], List.getElem_mem _, rfl, r1, k1⟩

/-- Some five numbers, small; the reader has moved on. -/
def AnyReq (w : World) (g P : Nat) (e : Ending) (w' : World) : Prop :=
  ∃ r : Rq, e = .returned (.agg #[.int .i64 r.c, .int .i64 r.n, .int .i64 r.o, .int .i64 r.x, .int .i64 r.y]) ∧ Rdr w' g (P + 7) ∧ w.grownBy w' (some g)

end Go.Proofs.YtilldpoleiippaaGreatDoor
