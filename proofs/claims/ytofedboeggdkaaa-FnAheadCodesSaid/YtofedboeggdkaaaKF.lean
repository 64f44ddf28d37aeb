/- Contracts of the reader of drawn bytes (l20Open, pick, one, of): whatever it reads, a number in range; condition: fewer than 2^40 reads. | Contracts of the drawn requests; condition: fewer than 2^40 reads. | Contracts of l20Open, one, l20AnyReq; condition: fewer than 2^40 reads. | One ask in a block of its own, as a row; no condition. | Contract of l20Reqs: some valid asks, in a list of its own; condition: fewer than 2^40 reads. | Contract of DrawGameFold: some asks, in a list of their own; no condition but a code of bytes. -/
import Derived.Test.YtofedboeggdkaaaKA
import Derived.Deep.QuietTactic
import Derived.BigQuiet
import Derived.LoopTactic
import Derived.Great.BuildSlice
set_option linter.unusedSimpArgs false
set_option linter.unusedVariables false
/-! Contracts of the reader of drawn bytes (l20Open, pick, one, of): whatever it reads, a number in range; condition: fewer than 2^40 reads. -/
namespace Go.Proofs.Ytofedboeggdkaaa
open Go.RowKit Go.Joins

/-- The reader in block g: its bytes, below g, can be read; it has read at most P times. -/
def Rdr (w : World) (g P : Nat) : Prop :=
  ∃ (a : Option Addr) (len cap p : Nat), w.heap[g]? = some (.cells #[.slice a len cap, .int .i64 p] 108 (0, 0)) ∧ p ≤ P ∧ len ≤ 2000 ∧ len ≤ cap ∧ cap ≤ maxLen ∧
    ∀ i, i < len → ∃ (b off : Nat) (x : Int), a = some ⟨b, off, none⟩ ∧ b < g ∧ 0 ≤ x ∧ x ≤ 255 ∧ w.cell? ⟨b, off + i, none⟩ = some (.int .u8 x)

/-- A number in range; the reader has moved on by one; nothing else that was there has turned. -/
def Picked (w : World) (g P : Nat) (n : Int) (e : Ending) (w' : World) : Prop :=
  ∃ v : Int, e = .returned (.int .i64 v) ∧ 0 ≤ v ∧ (1 ≤ n → v < n) ∧ (n < 1 → v = 0) ∧ Rdr w' g (P + 1) ∧ w.grownBy w' (some g)

theorem grown_refl (w : World) (row : Option Nat) : w.grownBy w row := ⟨rfl, rfl, rfl, Nat.le_refl _, fun _ _ _ => rfl⟩
theorem grown_trans {a b c : World} {row : Option Nat} (h : a.grownBy b row) (k : b.grownBy c row) : a.grownBy c row :=
  ⟨k.os.trans h.os, k.tape.trans h.tape, k.output.trans h.output, Nat.le_trans h.size k.size, fun i hi hne => (k.block i (Nat.lt_of_lt_of_le hi h.size) hne).trans (h.block i hi hne)⟩
theorem grown_of_below {a w : World} (h : Below a.heap.size a w) (row : Option Nat) : a.grownBy w row := ⟨h.os, h.tape, h.output, h.size, fun i hi _ => h.block i hi⟩
theorem grown_drewN {a w : World} {row : Option Nat} (h : a.grownBy w row) (n : Nat) : a.grownBy (w.drewN n) row := ⟨h.os, h.tape, h.output, h.size, h.block⟩
theorem grown_setCell {a w : World} {g : Nat} (h : a.grownBy w (some g)) {p : Addr} (hp : p.block = g ∨ a.heap.size ≤ p.block) (u : Value) : a.grownBy (w.setCell p u) (some g) :=
  ⟨h.os, h.tape, h.output, by simpa [World.setCell] using h.size, fun i hi hne => (Below.heap_setCell w p u i (by
    rintro rfl
    rcases hp with hp | hp
    · exact hne (by rw [hp])
    · omega)).trans (h.block i hi hne)⟩

theorem gcell {W w1 : World} {g : Nat} (h : W.grownBy w1 (some g)) :
    (∀ b o, b < W.heap.size → b ≠ g → w1.cell? ⟨b, o, none⟩ = W.cell? ⟨b, o, none⟩) ∧ (∀ b o, b < W.heap.size → b ≠ g → w1.frozen? ⟨b, o, none⟩ = W.frozen? ⟨b, o, none⟩) :=
  ⟨fun b o hb hne => World.cell?_of_block (w := W) (a := ⟨b, o, none⟩) (h.block b hb (fun e => hne (by injection e))), fun b o hb hne => World.frozen?_of_block (w := W) (a := ⟨b, o, none⟩) (h.block b hb (fun e => hne (by injection e)))⟩
theorem Rdr.below {w w' : World} {g P : Nat} (h : Rdr w g P) (k : Below (g + 1) w w') : Rdr w' g P := by
  obtain ⟨a, len, cap, p, hg, hp, hl, hlc, hm, hc⟩ := h
  refine ⟨a, len, cap, p, by rw [k.block g (by omega)]; exact hg, hp, hl, hlc, hm, fun i hi => ?_⟩
  obtain ⟨b, off, x, h1, h2, h3, h4, h5⟩ := hc i hi
  exact ⟨b, off, x, h1, h2, h3, h4, by rw [k.cell (p := ⟨b, off + i, none⟩) (by show b < g + 1; omega)]; exact h5⟩
theorem Rdr.mono {w : World} {g P Q : Nat} (h : Rdr w g P) (k : P ≤ Q) : Rdr w g Q := by
  obtain ⟨a, len, cap, p, hg, hp, r⟩ := h
  exact ⟨a, len, cap, p, hg, Nat.le_trans hp k, r⟩
theorem Rdr.lt {w : World} {g P : Nat} (h : Rdr w g P) : g < w.heap.size := by
  obtain ⟨a, len, cap, p, hg, _⟩ := h
  exact lt_of_block hg

theorem grown_alloc {a w : World} {row : Option Nat} (h : a.grownBy w row) (o : Obj) : a.grownBy (w.alloc o) row :=
  ⟨h.os, h.tape, h.output, Nat.le_trans h.size (by simp), fun i hi hne => (Below.heap_alloc w o i (Nat.lt_of_lt_of_le hi h.size)).trans (h.block i hi hne)⟩
theorem grown_drew {a w : World} {row : Option Nat} (h : a.grownBy w row) : a.grownBy w.drew row := ⟨h.os, h.tape, h.output, h.size, h.block⟩

theorem bel_grown {a w w' : World} {g : Nat} (h : Below a.heap.size a w) (k : w.grownBy w' (some g)) (hg : a.heap.size ≤ g) : Below a.heap.size a w' :=
  h.grown k h.size (fun b e => by injection e with e; omega)

/-- A block that was there, other than g, is there still. -/
theorem carry {W w1 : World} {g b : Nat} {o : Obj} (k : W.grownBy w1 (some g)) (hne : b ≠ g) (h : W.heap[b]? = some o) : w1.heap[b]? = some o :=
  (k.block b (lt_of_block h) (fun e => hne (by injection e))).trans h

/-- The store of the new count. -/
theorem Rdr.step {w : World} {a : Option Addr} {g P len cap p : Nat} (hg : w.heap[g]? = some (.cells #[.slice a len cap, .int .i64 p] 108 (0, 0))) (hp : p ≤ P) (hl : len ≤ 2000) (hlc : len ≤ cap) (hm : cap ≤ maxLen)
    (hc : ∀ i, i < len → ∃ (b off : Nat) (x : Int), a = some ⟨b, off, none⟩ ∧ b < g ∧ 0 ≤ x ∧ x ≤ 255 ∧ w.cell? ⟨b, off + i, none⟩ = some (.int .u8 x)) (n : Nat) :
    Rdr ((w.setCell ⟨g, 1, none⟩ (.int .i64 ((p : Int) + 1))).drewN n) g (P + 1) ∧ w.grownBy ((w.setCell ⟨g, 1, none⟩ (.int .i64 ((p : Int) + 1))).drewN n) (some g) := by
  refine ⟨⟨a, len, cap, p + 1, ?_, by omega, hl, hlc, hm, fun i hi => ?_⟩, grown_drewN (grown_setCell (grown_refl w _) (.inl rfl) _) n⟩
  · have := block_setCell (i := 1) hg (.int .i64 ((p : Int) + 1))
    exact this
  · obtain ⟨b, off, x, h1, h2, h3, h4, h5⟩ := hc i hi
    refine ⟨b, off, x, h1, h2, h3, h4, ?_⟩
    have := Below.heap_setCell w ⟨g, 1, none⟩ (.int .i64 ((p : Int) + 1)) b (by show b ≠ g; omega)
    show ((w.setCell ⟨g, 1, none⟩ (.int .i64 ((p : Int) + 1))).drewN n).cell? ⟨b, off + i, none⟩ = _
    rw [← h5]
    exact World.cell?_of_block (w := w) (w' := (w.setCell ⟨g, 1, none⟩ (.int .i64 ((p : Int) + 1))).drewN n) (a := ⟨b, off + i, none⟩) this

set_option maxRecDepth 100000 in
set_option maxHeartbeats 4000000 in
theorem pick_c (w : World) (g P : Nat) (n : Int) (hr : Rdr w g P) (hP : P ≤ 1099511627776) (hn : n ≤ 4611686018427387904) :
    Calls Try.prog 85 #[.pointer (some ⟨g, 0, none⟩), .int .i64 n] w (Picked w g P n) := by
  obtain ⟨a, len, cap, p, hg, hp, hl, hlc, hm, hc⟩ := hr
  have HS := Lib.hid (Rdr.step (P := P) hg hp hl hlc hm hc)
  have c0 : w.cell? ⟨g, 0, none⟩ = some (.slice a len cap) := by rw [cell_of_block hg]; rfl
  have c1 : w.cell? ⟨g, 1, none⟩ = some (.int .i64 p) := by rw [cell_of_block hg]; rfl
  have f1 : w.frozen? ⟨g, 1, none⟩ = false := unfrozen_of_block hg 1
  have HC := Lib.hid hc
  have HG := Lib.hid hg
  clear hc hg
  unfold maxLen at hm
  by_cases hn1 : n < 1
  · go_enter Try.func85, Try.ntmps85
    go_wp2_with fail
    go_ret
    exact ⟨0, rfl, Int.le_refl _, fun h => by omega, fun _ => rfl, (HS.out 0).1, (HS.out 0).2⟩
  · by_cases hl0 : len = 0
    · subst hl0
      go_enter Try.func85, Try.ntmps85
      go_wp2_with fail
      go_ret
      exact ⟨0, rfl, Int.le_refl _, fun h => by omega, fun _ => rfl, (HS.out 0).1, (HS.out 0).2⟩
    · have hll : ((len : Int) == 0) = false := by simp; omega
      have hnz : 1 ≤ n := by omega
      by_cases hk : p < len
      · obtain ⟨b, off, x, rfl, hbg, hx0, hx1, hcell⟩ := HC.out p hk
        have hne : ¬ b = g := by omega
        have hne' : ¬ g = b := by omega
        go_enter Try.func85, Try.ntmps85
        go_wp2_with fail
        go_ret
        exact ⟨x % n, rfl, Int.emod_nonneg _ (by omega), fun _ => Int.emod_lt_of_pos _ (by omega), fun h => by omega, (HS.out 0).1, (HS.out 0).2⟩
      · obtain ⟨b, off, x, rfl, hbg, hx0, hx1, hcell⟩ := HC.out (p % len) (Nat.mod_lt _ (by omega))
        obtain ⟨b', off', y, hbb, hbg', hy0, hy1, hcell'⟩ := HC.out ((p * 7 + 3) % len) (Nat.mod_lt _ (by omega))
        simp only [Option.some.injEq, Addr.mk.injEq, and_true] at hbb
        obtain ⟨rfl, rfl⟩ := hbb
        have hne : ¬ b = g := by omega
        have hne' : ¬ g = b := by omega
        have L1 : (1 : Int) ≤ len := by omega
        have L2 : (0 : Int) ≤ p := by omega
        have L3 : (p : Int) ≤ 1099511627776 := by omega
        have M1 : (p : Int).tmod len = (p : Int) % len := Int.tmod_eq_emod_of_nonneg L2
        have M2 : ((p : Int) * 7 + 3).tmod len = ((p : Int) * 7 + 3) % len := Int.tmod_eq_emod_of_nonneg (by omega)
        have D1 : (p : Int).tdiv len = (p : Int) / len := Int.tdiv_eq_ediv_of_nonneg L2
        have B1 : 0 ≤ (p : Int) % len := Int.emod_nonneg _ (by omega)
        have B2 : (p : Int) % len < len := Int.emod_lt_of_pos _ (by omega)
        have B3 : 0 ≤ ((p : Int) * 7 + 3) % len := Int.emod_nonneg _ (by omega)
        have B4 : ((p : Int) * 7 + 3) % len < len := Int.emod_lt_of_pos _ (by omega)
        have B5 : 0 ≤ (p : Int) / len := Int.ediv_nonneg L2 (by omega)
        have B6 : (p : Int) / len ≤ p := Int.ediv_le_self _ L2
        have N1 : ((p : Int) % len).toNat = p % len := by rw [← Int.natCast_emod]; rfl
        have N2 : (((p : Int) * 7 + 3) % len).toNat = (p * 7 + 3) % len := by
          have : ((p : Int) * 7 + 3) % len = (((p * 7 + 3) % len : Nat) : Int) := by rw [Int.natCast_emod]; rfl
          rw [this]; rfl
        have W1 : IntKind.i64.wrap (x * 131) = x * 131 := IntWalk.i64_in _ ⟨by omega, by omega⟩
        have W2 : IntKind.i64.wrap ((p : Int) * 7) = (p : Int) * 7 := IntWalk.i64_in _ ⟨by omega, by omega⟩
        have W3 : IntKind.i64.wrap ((p : Int) * 7 + 3) = (p : Int) * 7 + 3 := IntWalk.i64_in _ ⟨by omega, by omega⟩
        have W4 : IntKind.i64.wrap (y * 1117) = y * 1117 := IntWalk.i64_in _ ⟨by omega, by omega⟩
        have W5 : IntKind.i64.wrap (x * 131 + y * 1117) = x * 131 + y * 1117 := IntWalk.i64_in _ ⟨by omega, by omega⟩
        have W6 : IntKind.i64.wrap ((p : Int) * 29) = (p : Int) * 29 := IntWalk.i64_in _ ⟨by omega, by omega⟩
        have W7 : IntKind.i64.wrap (x * 131 + y * 1117 + (p : Int) * 29) = x * 131 + y * 1117 + (p : Int) * 29 := IntWalk.i64_in _ ⟨by omega, by omega⟩
        have W8 : IntKind.i64.wrap ((p : Int) / len * 53) = (p : Int) / len * 53 := IntWalk.i64_in _ ⟨by omega, by omega⟩
        have W9 : IntKind.i64.wrap (x * 131 + y * 1117 + (p : Int) * 29 + (p : Int) / len * 53) = x * 131 + y * 1117 + (p : Int) * 29 + (p : Int) / len * 53 := IntWalk.i64_in _ ⟨by omega, by omega⟩
        have Q1 : IntKind.i64.wrap ((p : Int) / len) = (p : Int) / len := IntWalk.i64_in _ ⟨by omega, by omega⟩
        go_enter Try.func85, Try.ntmps85
        go_wp2_with fail
        go_quiet (fail)
        obtain ⟨t, ht⟩ : ∃ t : Nat, x * 131 + y * 1117 + (p : Int) * 29 + (p : Int) / len * 53 = (t : Int) := ⟨_, (Int.toNat_of_nonneg (by omega)).symm⟩
        have ht1 : t < 4611686018427387904 := by omega
        rw [ht]
        clear W1 W2 W3 W4 W5 W6 W7 W8 W9 Q1 M1 M2 D1 N1 N2 ht B1 B2 B3 B4 B5 B6 hcell hcell'
        have HX : bits .xor .i64 (t : Int) ((t : Int) / 64) = ((t ^^^ t / 64 : Nat) : Int) := i64_xor_nat t (t / 64) (by omega) (by omega)
        generalize t ^^^ t / 64 = s at *
        go_wp2_with fail
        go_ret
        exact ⟨(s : Int) % n, rfl, Int.emod_nonneg _ (by omega), fun _ => Int.emod_lt_of_pos _ (by omega), fun h => by omega, (HS.out nq).1, (HS.out nq).2⟩
end Go.Proofs.Ytofedboeggdkaaa

/-! Contracts of the drawn requests; condition: fewer than 2^40 reads. -/
namespace Go.Proofs.Ytofedboeggdkaaa
open Go.RowKit Go.Joins

/-- A valid request of a client from 1 to 3; the reader has moved on; nothing else has turned. -/
def ReqDrawn (w : World) (g P : Nat) (e : Ending) (w' : World) : Prop :=
  ∃ r : Rq, e = .returned (.agg #[.int .i64 r.c, .int .i64 r.n, .int .i64 r.o, .int .i64 r.x, .int .i64 r.y]) ∧ okB r.c r.n r.o r.x r.y = true ∧ r.c ≤ 3 ∧ Rdr w' g (P + 5) ∧ w.grownBy w' (some g)


set_option maxRecDepth 100000 in
set_option maxHeartbeats 2000000 in
theorem l20Req_c (w : World) (g P : Nat) (hr : Rdr w g P) (hP : P ≤ 1099511627000) :
    Calls Try.prog 109 #[.pointer (some ⟨g, 0, none⟩)] w (ReqDrawn w g P) := by
  have hlt := hr.lt
  go_enter Try.func109, Try.ntmps109
  go_wp2_with fail
  refine (pick_c _ g P 3 (hr.below (by repeat' (first | with_reducible exact Below.refl _ _ | with_reducible assumption | with_reducible refine Below.alloc ?_ ?_ _ | with_reducible refine Below.drew ?_ | with_reducible refine Below.setCell ?_ ?_ _ | omega | (simp; omega) | (simp; done)))) (by omega) (by omega)).mono ?_
  rintro e w1 ⟨v1, rfl, a1, b1, -, r1, k1⟩
  replace b1 := b1 (by omega)
  go_wp2_with fail
  refine (pick_c _ g (P + 1) 6 r1 (by omega) (by omega)).mono ?_
  rintro e w2 ⟨v2, rfl, a2, b2, -, r2, k2⟩
  replace b2 := b2 (by omega)
  go_wp2_with fail
  refine (pick_c _ g (P + 1 + 1) 5 r2 (by omega) (by omega)).mono ?_
  rintro e w3 ⟨v3, rfl, a3, b3, -, r3, k3⟩
  replace b3 := b3 (by omega)
  have k := grown_trans (grown_trans k1 k2) k3
  have hsz := k.size
  have hlt3 := r3.lt
  rw [World.size_alloc] at hsz
  have hne : w.heap.size ≠ g := by omega
  have hne3 : w3.heap.size ≠ g := by omega
  have hlt4 : w.heap.size < w3.heap.size := by omega
  have hlt5 : w.heap.size ≠ w3.heap.size := by omega
  have HR := Lib.hid (carry k hne (heap_alloc_new w _))
  have hc := cell_of_block HR.out
  have hf := unfrozen_of_block HR.out
  have K : w.grownBy w3 (some g) := grown_trans (grown_of_below (by repeat' (first | with_reducible exact Below.refl _ _ | with_reducible assumption | with_reducible refine Below.alloc ?_ ?_ _ | with_reducible refine Below.drew ?_ | with_reducible refine Below.setCell ?_ ?_ _ | omega | (simp; omega) | (simp; done))) _) k
  clear k1 k2 k3 r1 r2 k
  have h5 : v3 = 0 ∨ v3 = 1 ∨ v3 = 2 ∨ v3 = 3 ∨ v3 = 4 := by omega
  rcases h5 with rfl | rfl | rfl | rfl | rfl
  · go_wp2_with fail
    refine bodyPost_ret (v := .agg #[.int .i64 (1 + v1), .int .i64 (1 + v2), .int .i64 1, .int .i64 0, .int .i64 0]) (by simp [results, Try.results109, go_sem, hc, hlt4]) rfl ?_
    exact ⟨⟨1 + v1, 1 + v2, 1, 0, 0⟩, rfl, by simp [okB, inB]; omega, by show 1 + v1 ≤ 3; omega, (r3.below (by repeat' (first | with_reducible exact Below.refl _ _ | with_reducible assumption | with_reducible refine Below.alloc ?_ ?_ _ | with_reducible refine Below.drew ?_ | with_reducible refine Below.setCell ?_ ?_ _ | omega | (simp; omega) | (simp; done)))).mono (by omega), by repeat (first | with_reducible exact K | with_reducible refine grown_alloc ?_ _ | with_reducible refine grown_setCell ?_ (.inr (Nat.le_refl _)) _)⟩
  · go_wp2_with fail
    refine (pick_c _ g (P + 1 + 1 + 1) 3 (r3.below (by repeat' (first | with_reducible exact Below.refl _ _ | with_reducible assumption | with_reducible refine Below.alloc ?_ ?_ _ | with_reducible refine Below.drew ?_ | with_reducible refine Below.setCell ?_ ?_ _ | omega | (simp; omega) | (simp; done)))) (by omega) (by omega)).mono ?_
    rintro e w4 ⟨v4, rfl, a4, b4, -, r4, k4⟩
    replace b4 := b4 (by omega)
    have hs4 := k4.size
    rw [World.size_alloc] at hs4
    have hl4 : w3.heap.size < w4.heap.size := by omega
    have hX := carry k4 hne3 (heap_alloc_new w3 _)
    have hcX := cell_of_block hX
    have hfX := unfrozen_of_block hX
    have HX := Lib.hid hX
    have HR4 := Lib.hid (carry k4 hne (by rw [Below.heap_alloc _ _ _ hlt4]; exact HR.out))
    have K4 : w.grownBy w4 (some g) := grown_trans (grown_alloc K _) k4
    clear hc hf hX k4 r3
    go_wp2_with fail
    refine (pick_c _ g (P + 1 + 1 + 1 + 1) 3 (r4.below (by repeat' (first | with_reducible exact Below.refl _ _ | with_reducible assumption | with_reducible refine Below.alloc ?_ ?_ _ | with_reducible refine Below.drew ?_ | with_reducible refine Below.setCell ?_ ?_ _ | omega | (simp; omega) | (simp; done)))) (by omega) (by omega)).mono ?_
    rintro e w5 ⟨v5, rfl, a5, b5, -, r5, k5⟩
    replace b5 := b5 (by omega)
    have hs5 := k5.size
    rw [World.size_setCell] at hs5
    have hX5 := carry k5 hne3 (block_setCell (i := 3) HX.out _)
    have HR5 := carry k5 hne (by rw [Below.heap_setCell _ _ _ _ (by simp; omega)]; exact HR4.out)
    have hc := cell_of_block HR5
    have hf := unfrozen_of_block HR5
    have hcX5 := cell_of_block hX5
    have hfX5 := unfrozen_of_block hX5
    have K5 : w.grownBy w5 (some g) := grown_trans (by repeat (first | with_reducible exact K4 | with_reducible refine grown_setCell ?_ (.inr (by simp; omega)) _)) k5
    clear hcX hfX hX5 HR5 k5 r4
    go_wp2_with fail
    refine bodyPost_ret (v := .agg #[.int .i64 (1 + v1), .int .i64 (1 + v2), .int .i64 2, .int .i64 (v4 - 1), .int .i64 (v5 - 1)]) (by simp [results, Try.results109, go_sem, hc]) rfl ?_
    exact ⟨⟨1 + v1, 1 + v2, 2, v4 - 1, v5 - 1⟩, rfl, by simp [okB, inB]; omega, by show 1 + v1 ≤ 3; omega, (r5.below (by repeat' (first | with_reducible exact Below.refl _ _ | with_reducible assumption | with_reducible refine Below.alloc ?_ ?_ _ | with_reducible refine Below.drew ?_ | with_reducible refine Below.setCell ?_ ?_ _ | omega | (simp; omega) | (simp; done)))).mono (by omega), by repeat (first | with_reducible exact K5 | with_reducible refine grown_alloc ?_ _ | with_reducible refine grown_setCell ?_ (.inr (by simp; try omega)) _)⟩
  · go_wp2_with fail
    refine bodyPost_ret (v := .agg #[.int .i64 (1 + v1), .int .i64 (1 + v2), .int .i64 3, .int .i64 0, .int .i64 0]) (by simp [results, Try.results109, go_sem, hc, hlt4]) rfl ?_
    exact ⟨⟨1 + v1, 1 + v2, 3, 0, 0⟩, rfl, by simp [okB, inB]; omega, by show 1 + v1 ≤ 3; omega, (r3.below (by repeat' (first | with_reducible exact Below.refl _ _ | with_reducible assumption | with_reducible refine Below.alloc ?_ ?_ _ | with_reducible refine Below.drew ?_ | with_reducible refine Below.setCell ?_ ?_ _ | omega | (simp; omega) | (simp; done)))).mono (by omega), by repeat (first | with_reducible exact K | with_reducible refine grown_alloc ?_ _ | with_reducible refine grown_setCell ?_ (.inr (Nat.le_refl _)) _)⟩
  · go_wp2_with fail
    refine (pick_c _ g (P + 1 + 1 + 1) 3 (r3.below (by repeat' (first | with_reducible exact Below.refl _ _ | with_reducible assumption | with_reducible refine Below.alloc ?_ ?_ _ | with_reducible refine Below.drew ?_ | with_reducible refine Below.setCell ?_ ?_ _ | omega | (simp; omega) | (simp; done)))) (by omega) (by omega)).mono ?_
    rintro e w4 ⟨v4, rfl, a4, b4, -, r4, k4⟩
    replace b4 := b4 (by omega)
    have hs4 := k4.size
    rw [World.size_alloc] at hs4
    have hl4 : w3.heap.size < w4.heap.size := by omega
    have hX := carry k4 hne3 (heap_alloc_new w3 _)
    have hcX := cell_of_block hX
    have hfX := unfrozen_of_block hX
    have HR4 := carry k4 hne (by rw [Below.heap_alloc _ _ _ hlt4]; exact HR.out)
    have hc4 := cell_of_block HR4
    have hf4 := unfrozen_of_block HR4
    have K4 : w.grownBy w4 (some g) := grown_trans (grown_alloc K _) k4
    clear hc hf hX k4 r3 HR4
    go_wp2_with fail
    refine bodyPost_ret (v := .agg #[.int .i64 (1 + v1), .int .i64 (1 + v2), .int .i64 4, .int .i64 (1 + v4), .int .i64 0]) (by simp [results, Try.results109, go_sem, hc4]) rfl ?_
    exact ⟨⟨1 + v1, 1 + v2, 4, 1 + v4, 0⟩, rfl, by simp [okB, inB]; omega, by show 1 + v1 ≤ 3; omega, (r4.below (by repeat' (first | with_reducible exact Below.refl _ _ | with_reducible assumption | with_reducible refine Below.alloc ?_ ?_ _ | with_reducible refine Below.drew ?_ | with_reducible refine Below.setCell ?_ ?_ _ | omega | (simp; omega) | (simp; done)))).mono (by omega), by repeat (first | with_reducible exact K4 | with_reducible refine grown_alloc ?_ _ | with_reducible refine grown_setCell ?_ (.inr (by simp; try omega)) _)⟩
  · go_wp2_with fail
    refine (pick_c _ g (P + 1 + 1 + 1) 3 (r3.below (by repeat' (first | with_reducible exact Below.refl _ _ | with_reducible assumption | with_reducible refine Below.alloc ?_ ?_ _ | with_reducible refine Below.drew ?_ | with_reducible refine Below.setCell ?_ ?_ _ | omega | (simp; omega) | (simp; done)))) (by omega) (by omega)).mono ?_
    rintro e w4 ⟨v4, rfl, a4, b4, -, r4, k4⟩
    replace b4 := b4 (by omega)
    have hs4 := k4.size
    rw [World.size_alloc] at hs4
    have hl4 : w3.heap.size < w4.heap.size := by omega
    have hX := carry k4 hne3 (heap_alloc_new w3 _)
    have hcX := cell_of_block hX
    have hfX := unfrozen_of_block hX
    have HX := Lib.hid hX
    have HR4 := Lib.hid (carry k4 hne (by rw [Below.heap_alloc _ _ _ hlt4]; exact HR.out))
    have K4 : w.grownBy w4 (some g) := grown_trans (grown_alloc K _) k4
    clear hc hf hX k4 r3
    go_wp2_with fail
    refine (pick_c _ g (P + 1 + 1 + 1 + 1) 3 (r4.below (by repeat' (first | with_reducible exact Below.refl _ _ | with_reducible assumption | with_reducible refine Below.alloc ?_ ?_ _ | with_reducible refine Below.drew ?_ | with_reducible refine Below.setCell ?_ ?_ _ | omega | (simp; omega) | (simp; done)))) (by omega) (by omega)).mono ?_
    rintro e w5 ⟨v5, rfl, a5, b5, -, r5, k5⟩
    replace b5 := b5 (by omega)
    have hs5 := k5.size
    rw [World.size_setCell] at hs5
    have hX5 := carry k5 hne3 (block_setCell (i := 3) HX.out _)
    have HR5 := carry k5 hne (by rw [Below.heap_setCell _ _ _ _ (by simp; omega)]; exact HR4.out)
    have hc := cell_of_block HR5
    have hf := unfrozen_of_block HR5
    have hcX5 := cell_of_block hX5
    have hfX5 := unfrozen_of_block hX5
    have K5 : w.grownBy w5 (some g) := grown_trans (by repeat (first | with_reducible exact K4 | with_reducible refine grown_setCell ?_ (.inr (by simp; omega)) _)) k5
    clear hcX hfX hX5 HR5 k5 r4
    go_wp2_with fail
    refine bodyPost_ret (v := .agg #[.int .i64 (1 + v1), .int .i64 (1 + v2), .int .i64 5, .int .i64 (1 + v4), .int .i64 (1 + v5)]) (by simp [results, Try.results109, go_sem, hc]) rfl ?_
    exact ⟨⟨1 + v1, 1 + v2, 5, 1 + v4, 1 + v5⟩, rfl, by simp [okB, inB]; omega, by show 1 + v1 ≤ 3; omega, (r5.below (by repeat' (first | with_reducible exact Below.refl _ _ | with_reducible assumption | with_reducible refine Below.alloc ?_ ?_ _ | with_reducible refine Below.drew ?_ | with_reducible refine Below.setCell ?_ ?_ _ | omega | (simp; omega) | (simp; done)))).mono (by omega), by repeat (first | with_reducible exact K5 | with_reducible refine grown_alloc ?_ _ | with_reducible refine grown_setCell ?_ (.inr (by simp; try omega)) _)⟩
end Go.Proofs.Ytofedboeggdkaaa

/-! Contracts of l20Open, one, l20AnyReq; condition: fewer than 2^40 reads. -/
namespace Go.Proofs.Ytofedboeggdkaaa
open Go.RowKit Go.Joins

/-- A fresh reader over the bytes that came in. -/
def Opened (w : World) (e : Ending) (w' : World) : Prop :=
  ∃ g : Nat, e = .returned (.pointer (some ⟨g, 0, none⟩)) ∧ w.heap.size ≤ g ∧ Rdr w' g 0 ∧ Below w.heap.size w w'

set_option maxHeartbeats 400000 in
theorem l20Open_c (v : Value) (z : Bts) (w : World) (hz : IsBytes w v z) :
    Calls Try.prog 77 #[v] w (Opened w) := by
  obtain ⟨rfl, hlc, hm, hc⟩ := hz
  have HC := Lib.hid hc
  clear hc
  obtain ⟨a, len, cap⟩ := z
  simp only at hlc hm HC ⊢
  have hm' : cap ≤ 9223372036854775807 := by unfold maxLen at hm; omega
  by_cases hl : len ≤ 2000
  · go_enter Try.func77, Try.ntmps77
    go_wp2
    go_ret
    refine ⟨w.heap.size, rfl, Nat.le_refl _, ⟨a, len, cap, 0, heap_alloc_new w _, Nat.le_refl _, hl, hlc, hm, fun i hi => ?_⟩, (by repeat' (first | with_reducible exact Below.refl _ _ | with_reducible assumption | with_reducible refine Below.alloc ?_ ?_ _ | with_reducible refine Below.drew ?_ | with_reducible refine Below.setCell ?_ ?_ _ | omega | (simp; omega) | (simp; done)))⟩
    obtain ⟨b, off, x, h1, h2, h3, h4, h5⟩ := HC.out i hi
    exact ⟨b, off, x, h1, h2, h3, h4, by rw [(Below.alloc (Below.refl w.heap.size w) (Nat.le_refl _) _).cell (p := ⟨b, off + i, none⟩) h2]; exact h5⟩
  · obtain ⟨b, off, x, ha, _⟩ := HC.out 0 (by omega)
    subst ha
    go_enter Try.func77, Try.ntmps77
    go_wp2
    all_goals go_ret
    all_goals refine ⟨w.heap.size, rfl, Nat.le_refl _, ⟨some ⟨b, off, none⟩, 2000, cap, 0, heap_alloc_new w _, Nat.le_refl _, Nat.le_refl _, by omega, hm, fun i hi => ?_⟩, (by repeat' (first | with_reducible exact Below.refl _ _ | with_reducible assumption | with_reducible refine Below.alloc ?_ ?_ _ | with_reducible refine Below.drew ?_ | with_reducible refine Below.setCell ?_ ?_ _ | omega | (simp; omega) | (simp; done)))⟩
    all_goals obtain ⟨b, off, x, h1, h2, h3, h4, h5⟩ := HC.out i (by omega)
    all_goals exact ⟨b, off, x, h1, h2, h3, h4, by rw [(Below.alloc (Below.refl w.heap.size w) (Nat.le_refl _) _).cell (p := ⟨b, off + i, none⟩) h2]; exact h5⟩

/-- One of the numbers of a list. -/
def OneOf (zs : List Int) (w : World) (g P : Nat) (e : Ending) (w' : World) : Prop :=
  ∃ v : Int, v ∈ zs ∧ e = .returned (.int .i64 v) ∧ Rdr w' g (P + 1) ∧ w.grownBy w' (some g)

set_option maxHeartbeats 400000 in
theorem one_c (w : World) (g P h n : Nat) (t : TypeId) (zs : List Int) (cs : Array Value) (hr : Rdr w g P) (hP : P ≤ 1099511627776) (hne : h ≠ g) (hL : w.heap[h]? = some (.cells cs t (0, 0))) (hcs : cs = (zs.map (Value.int .i64)).toArray) (hn : zs.length = n) (h0 : 0 < n) (h1 : n ≤ 1000) :
    Calls Try.prog 86 #[.pointer (some ⟨g, 0, none⟩), .slice (some ⟨h, 0, none⟩) n n] w (OneOf zs w g P) := by
  have HL := Lib.hid hL
  have HN := Lib.hid hn
  have HCS := Lib.hid hcs
  clear hL hn hcs
  go_enter Try.func86, Try.ntmps86
  go_wp2_with fail
  refine (pick_c _ g P n hr hP (by omega)).mono ?_
  rintro e w1 ⟨v, rfl, a1, b1, -, r1, k1⟩
  replace b1 := b1 (by omega)
  have hL1 := carry k1 hne HL.out
  obtain ⟨m, rfl⟩ := Int.eq_ofNat_of_zero_le a1
  have hmn : m < n := by omega
  have hmz : m < zs.length := by rw [HN.out]; exact hmn
  have hc : w1.cell? ⟨h, m, none⟩ = some (.int .i64 zs[m]) := by
    rw [cell_of_block hL1, HCS.out]
    simp [hmz]
  clear hL1
  go_wp2_with fail
  go_ret
  exact ⟨zs[m], List.getElem_mem _, rfl, r1, k1⟩

/-- Some five numbers, small; the reader has moved on. -/
def AnyReq (w : World) (g P : Nat) (e : Ending) (w' : World) : Prop :=
  ∃ r : Rq, e = .returned (.agg #[.int .i64 r.c, .int .i64 r.n, .int .i64 r.o, .int .i64 r.x, .int .i64 r.y]) ∧ Rdr w' g (P + 7) ∧ w.grownBy w' (some g)

set_option maxRecDepth 100000 in
set_option maxHeartbeats 2000000 in
theorem l20AnyReq_c (w : World) (g P : Nat) (hr : Rdr w g P) (hP : P ≤ 1099511620000) :
    Calls Try.prog 79 #[.pointer (some ⟨g, 0, none⟩)] w (AnyReq w g P) := by
  have hlt := hr.lt
  go_enter Try.func79, Try.ntmps79
  go_wp2_with fail
  refine (l20Req_c _ g P (hr.below (by repeat' (first | with_reducible exact Below.refl _ _ | with_reducible assumption | with_reducible refine Below.alloc ?_ ?_ _ | with_reducible refine Below.drew ?_ | with_reducible refine Below.setCell ?_ ?_ _ | omega | (simp; omega) | (simp; done)))) (by omega)).mono ?_
  rintro e w1 ⟨r, rfl, -, -, r1, k1⟩
  have hs1 := k1.size
  have hlt1 := r1.lt
  rw [World.size_alloc] at hs1
  have hne : w.heap.size ≠ g := by omega
  have hne1 : w1.heap.size ≠ g := by omega
  have hl1 : w.heap.size < w1.heap.size := by omega
  have hl2 : w.heap.size ≠ w1.heap.size := by omega
  have HR := Lib.hid (carry k1 hne (heap_alloc_new w _))
  have K1 : w.grownBy w1 (some g) := grown_trans (grown_of_below (by repeat' (first | with_reducible exact Below.refl _ _ | with_reducible assumption | with_reducible refine Below.alloc ?_ ?_ _ | with_reducible refine Below.drew ?_ | with_reducible refine Below.setCell ?_ ?_ _ | omega | (simp; omega) | (simp; done))) _) k1
  clear k1
  go_wp2_with fail
  refine (pick_c _ g (P + 5) 12 (r1.below (by repeat' (first | with_reducible exact Below.refl _ _ | with_reducible assumption | with_reducible refine Below.alloc ?_ ?_ _ | with_reducible refine Below.drew ?_ | with_reducible refine Below.setCell ?_ ?_ _ | omega | (simp; omega) | (simp; done)))) (by omega) (by omega)).mono ?_
  rintro e w2 ⟨v2, rfl, a2, b2, -, r2, k2⟩
  replace b2 := b2 (by omega)
  have hs2 := k2.size
  rw [World.size_alloc] at hs2
  have hl3 : w1.heap.size < w2.heap.size := by omega
  have HX := Lib.hid (carry k2 hne1 (heap_alloc_new w1 _))
  have HR2 := Lib.hid (carry k2 hne (by rw [Below.heap_alloc _ _ _ hl1]; exact HR.out))
  have K2 : w.grownBy w2 (some g) := grown_trans (grown_alloc K1 _) k2
  have hc := cell_of_block HR2.out
  have hf := unfrozen_of_block HR2.out
  have hcX := cell_of_block HX.out
  have hfX := unfrozen_of_block HX.out
  clear k2 r1
  have h5 : v2 = 0 ∨ v2 = 1 ∨ v2 = 2 ∨ v2 = 3 ∨ v2 = 4 ∨ 5 ≤ v2 := by omega
  rcases h5 with rfl | rfl | rfl | rfl | rfl | h5
  · go_wp2_with fail
    refine bodyPost_ret (v := .agg #[.int .i64 0, .int .i64 0, .int .i64 0, .int .i64 0, .int .i64 0]) (by simp [results, Try.results79, go_sem, hc]) rfl ?_
    exact ⟨⟨0, 0, 0, 0, 0⟩, rfl, (r2.below (by repeat' (first | with_reducible exact Below.refl _ _ | with_reducible assumption | with_reducible refine Below.alloc ?_ ?_ _ | with_reducible refine Below.drew ?_ | with_reducible refine Below.setCell ?_ ?_ _ | omega | (simp; omega) | (simp; done)))).mono (by omega), by repeat (first | with_reducible exact K2 | with_reducible refine grown_alloc ?_ _ | with_reducible refine grown_setCell ?_ (.inr (by simp; try omega)) _)⟩
  · go_wp2_with fail
    refine (one_c _ g (P + 5 + 1) w2.heap.size 3 _ [0, 5, 4] _ (r2.below (by repeat' (first | with_reducible exact Below.refl _ _ | with_reducible assumption | with_reducible refine Below.alloc ?_ ?_ _ | with_reducible refine Below.drew ?_ | with_reducible refine Below.setCell ?_ ?_ _ | omega | (simp; omega) | (simp; done)))) (by omega) (by omega) (heap_alloc_new w2 _) rfl rfl (by decide) (by decide)).mono ?_
    rintro e w3 ⟨v3, -, rfl, r3, k3⟩
    have hs3 := k3.size
    rw [World.size_alloc] at hs3
    have hX3 := carry k3 hne1 (by rw [Below.heap_alloc _ _ _ hl3]; exact HX.out)
    have hR3 := carry k3 hne (by rw [Below.heap_alloc _ _ _ (by omega)]; exact HR2.out)
    have K3 : w.grownBy w3 (some g) := grown_trans (grown_alloc K2 _) k3
    clear hc hf hcX hfX k3
    have hc := cell_of_block hR3
    have hf := unfrozen_of_block hR3
    have hcX := cell_of_block hX3
    have hfX := unfrozen_of_block hX3
    clear hX3 hR3
    go_wp2_with fail
    refine bodyPost_ret (v := .agg #[.int .i64 v3, .int .i64 r.n, .int .i64 r.o, .int .i64 r.x, .int .i64 r.y]) (by simp [results, Try.results79, go_sem, hc]) rfl ?_
    exact ⟨⟨v3, r.n, r.o, r.x, r.y⟩, rfl, (r3.below (by repeat' (first | with_reducible exact Below.refl _ _ | with_reducible assumption | with_reducible refine Below.alloc ?_ ?_ _ | with_reducible refine Below.drew ?_ | with_reducible refine Below.setCell ?_ ?_ _ | omega | (simp; omega) | (simp; done)))).mono (by omega), by repeat (first | with_reducible exact K3 | with_reducible refine grown_alloc ?_ _ | with_reducible refine grown_setCell ?_ (.inr (by simp; try omega)) _)⟩
  · go_wp2_with fail
    refine (one_c _ g (P + 5 + 1) w2.heap.size 3 _ [0, 31, 30] _ (r2.below (by repeat' (first | with_reducible exact Below.refl _ _ | with_reducible assumption | with_reducible refine Below.alloc ?_ ?_ _ | with_reducible refine Below.drew ?_ | with_reducible refine Below.setCell ?_ ?_ _ | omega | (simp; omega) | (simp; done)))) (by omega) (by omega) (heap_alloc_new w2 _) rfl rfl (by decide) (by decide)).mono ?_
    rintro e w3 ⟨v3, -, rfl, r3, k3⟩
    have hs3 := k3.size
    rw [World.size_alloc] at hs3
    have hX3 := carry k3 hne1 (by rw [Below.heap_alloc _ _ _ hl3]; exact HX.out)
    have hR3 := carry k3 hne (by rw [Below.heap_alloc _ _ _ (by omega)]; exact HR2.out)
    have K3 : w.grownBy w3 (some g) := grown_trans (grown_alloc K2 _) k3
    clear hc hf hcX hfX k3
    have hc := cell_of_block hR3
    have hf := unfrozen_of_block hR3
    have hcX := cell_of_block hX3
    have hfX := unfrozen_of_block hX3
    clear hX3 hR3
    go_wp2_with fail
    refine bodyPost_ret (v := .agg #[.int .i64 r.c, .int .i64 v3, .int .i64 r.o, .int .i64 r.x, .int .i64 r.y]) (by simp [results, Try.results79, go_sem, hc]) rfl ?_
    exact ⟨⟨r.c, v3, r.o, r.x, r.y⟩, rfl, (r3.below (by repeat' (first | with_reducible exact Below.refl _ _ | with_reducible assumption | with_reducible refine Below.alloc ?_ ?_ _ | with_reducible refine Below.drew ?_ | with_reducible refine Below.setCell ?_ ?_ _ | omega | (simp; omega) | (simp; done)))).mono (by omega), by repeat (first | with_reducible exact K3 | with_reducible refine grown_alloc ?_ _ | with_reducible refine grown_setCell ?_ (.inr (by simp; try omega)) _)⟩
  · go_wp2_with fail
    refine (one_c _ g (P + 5 + 1) w2.heap.size 2 _ [0, 6] _ (r2.below (by repeat' (first | with_reducible exact Below.refl _ _ | with_reducible assumption | with_reducible refine Below.alloc ?_ ?_ _ | with_reducible refine Below.drew ?_ | with_reducible refine Below.setCell ?_ ?_ _ | omega | (simp; omega) | (simp; done)))) (by omega) (by omega) (heap_alloc_new w2 _) rfl rfl (by decide) (by decide)).mono ?_
    rintro e w3 ⟨v3, -, rfl, r3, k3⟩
    have hs3 := k3.size
    rw [World.size_alloc] at hs3
    have hX3 := carry k3 hne1 (by rw [Below.heap_alloc _ _ _ hl3]; exact HX.out)
    have hR3 := carry k3 hne (by rw [Below.heap_alloc _ _ _ (by omega)]; exact HR2.out)
    have K3 : w.grownBy w3 (some g) := grown_trans (grown_alloc K2 _) k3
    clear hc hf hcX hfX k3
    have hc := cell_of_block hR3
    have hf := unfrozen_of_block hR3
    have hcX := cell_of_block hX3
    have hfX := unfrozen_of_block hX3
    clear hX3 hR3
    go_wp2_with fail
    refine bodyPost_ret (v := .agg #[.int .i64 r.c, .int .i64 r.n, .int .i64 v3, .int .i64 r.x, .int .i64 r.y]) (by simp [results, Try.results79, go_sem, hc]) rfl ?_
    exact ⟨⟨r.c, r.n, v3, r.x, r.y⟩, rfl, (r3.below (by repeat' (first | with_reducible exact Below.refl _ _ | with_reducible assumption | with_reducible refine Below.alloc ?_ ?_ _ | with_reducible refine Below.drew ?_ | with_reducible refine Below.setCell ?_ ?_ _ | omega | (simp; omega) | (simp; done)))).mono (by omega), by repeat (first | with_reducible exact K3 | with_reducible refine grown_alloc ?_ _ | with_reducible refine grown_setCell ?_ (.inr (by simp; try omega)) _)⟩
  · go_wp2_with fail
    refine (one_c _ g (P + 5 + 1) w2.heap.size 3 _ [-2, 2, 5] _ (r2.below (by repeat' (first | with_reducible exact Below.refl _ _ | with_reducible assumption | with_reducible refine Below.alloc ?_ ?_ _ | with_reducible refine Below.drew ?_ | with_reducible refine Below.setCell ?_ ?_ _ | omega | (simp; omega) | (simp; done)))) (by omega) (by omega) (heap_alloc_new w2 _) rfl rfl (by decide) (by decide)).mono ?_
    rintro e w3 ⟨v3, -, rfl, r3, k3⟩
    have hs3 := k3.size
    rw [World.size_alloc] at hs3
    have hX3 := carry k3 hne1 (by rw [Below.heap_alloc _ _ _ hl3]; exact HX.out)
    have hR3 := carry k3 hne (by rw [Below.heap_alloc _ _ _ (by omega)]; exact HR2.out)
    have K3 : w.grownBy w3 (some g) := grown_trans (grown_alloc K2 _) k3
    clear hc hf hcX hfX k3
    have hc := cell_of_block hR3
    have hf := unfrozen_of_block hR3
    have hcX := cell_of_block hX3
    have hfX := unfrozen_of_block hX3
    clear hX3 hR3
    go_wp2_with fail
    refine bodyPost_ret (v := .agg #[.int .i64 r.c, .int .i64 r.n, .int .i64 r.o, .int .i64 v3, .int .i64 r.y]) (by simp [results, Try.results79, go_sem, hc]) rfl ?_
    exact ⟨⟨r.c, r.n, r.o, v3, r.y⟩, rfl, (r3.below (by repeat' (first | with_reducible exact Below.refl _ _ | with_reducible assumption | with_reducible refine Below.alloc ?_ ?_ _ | with_reducible refine Below.drew ?_ | with_reducible refine Below.setCell ?_ ?_ _ | omega | (simp; omega) | (simp; done)))).mono (by omega), by repeat (first | with_reducible exact K3 | with_reducible refine grown_alloc ?_ _ | with_reducible refine grown_setCell ?_ (.inr (by simp; try omega)) _)⟩
  · have n0 : (v2 == 0) = false := by simp; omega
    have n1 : (v2 == 1) = false := by simp; omega
    have n2 : (v2 == 2) = false := by simp; omega
    have n3 : (v2 == 3) = false := by simp; omega
    have n4 : (v2 == 4) = false := by simp; omega
    go_wp2_with fail
    refine bodyPost_ret (v := .agg #[.int .i64 r.c, .int .i64 r.n, .int .i64 r.o, .int .i64 r.x, .int .i64 r.y]) (by simp [results, Try.results79, go_sem, hc]) rfl ?_
    exact ⟨r, rfl, (r2.below (by repeat' (first | with_reducible exact Below.refl _ _ | with_reducible assumption | with_reducible refine Below.alloc ?_ ?_ _ | with_reducible refine Below.drew ?_ | with_reducible refine Below.setCell ?_ ?_ _ | omega | (simp; omega) | (simp; done)))).mono (by omega), by repeat (first | with_reducible exact K2 | with_reducible refine grown_alloc ?_ _ | with_reducible refine grown_setCell ?_ (.inr (by simp; try omega)) _)⟩
end Go.Proofs.Ytofedboeggdkaaa

/-! One ask in a block of its own, as a row; no condition. -/
namespace Go.Proofs.Ytofedboeggdkaaa
open Go.RowKit Go.Joins
theorem rowsAt_req (w : World) (r : Rq) (t : TypeId) : RowsAt (w.alloc (.cells #[.int .i64 r.c, .int .i64 r.n, .int .i64 r.o, .int .i64 r.x, .int .i64 r.y] t)) (some ⟨w.heap.size, 0, none⟩) 5 Rq.cs [r] :=
  rows_of_block (t := t) (fr := (0, 0)) five_len (heap_alloc_new w (.cells #[.int .i64 r.c, .int .i64 r.n, .int .i64 r.o, .int .i64 r.x, .int .i64 r.y] t))
end Go.Proofs.Ytofedboeggdkaaa

/-! Contract of l20Reqs: some valid asks, in a list of its own; condition: fewer than 2^40 reads. -/
namespace Go.Proofs.Ytofedboeggdkaaa
open Go.RowKit Go.Joins

/-- Some valid asks, or none, at most so many; the reader has moved on; nothing else that was there has turned. -/
def ReqsDrawn (w : World) (g P most : Nat) (e : Ending) (w' : World) : Prop :=
  ∃ (rs : List Rq) (a' : Option Addr) (cap' : Nat), e = .returned (.slice a' rs.length cap') ∧ rs.length ≤ most ∧ rs.all good = true ∧ Row w' w.heap.size 34 a' cap' 5 Rq.cs rs ∧ Rdr w' g (P + 1 + 7 * most) ∧ w.grownBy w' (some g)

def nums (l : List Int) : Array Value := (l.map (Value.int .i64)).toArray
theorem nums_set (l : List Int) (j : Nat) (v : Int) : (nums l).setIfInBounds j (.int .i64 v) = nums (l.set j v) := by
  unfold nums; rw [List.setIfInBounds_toArray, List.map_set]
theorem nums_get {l : List Int} {j : Nat} (h : j < l.length) : (nums l)[j]? = some (.int .i64 l[j]) := by
  unfold nums; simp [h]
theorem good_of_ok {c n o x y : Int} (h : okB c n o x y = true) : good ⟨c, n, o, x, y⟩ = true := by
  unfold good goodB; simp [h]
theorem ok_num {c n o x y n' : Int} (h : okB c n o x y = true) (h1 : 1 ≤ n') (h2 : n' ≤ 30) : okB c n' o x y = true := by
  unfold okB at h ⊢
  simp only [Bool.and_eq_true, inB_iff] at h ⊢
  exact ⟨⟨h.1.1, h1, h2⟩, h.2⟩
theorem ok_client {c n o x y : Int} (h : okB c n o x y = true) : 1 ≤ c ∧ c ≤ 4 ∧ 1 ≤ n ∧ n ≤ 30 := by
  unfold okB at h
  simp only [Bool.and_eq_true, inB_iff] at h
  omega
theorem ok_join {c n o x y : Int} (h : okB c n o x y = true) : okB c 1 1 0 0 = true := by
  unfold okB at h ⊢
  simp only [Bool.and_eq_true, inB_iff] at h
  simp [inB]
  omega

theorem store_stop {P : Program} {ops : Array Oper} {rest : List Oper} {o : Oper} {a : Act} {w : World} {Q : Exit → Act → World → Prop} {ty : TypeId} {x y : Operand} (_ho : o.op = .store ty x y) (h : Hid (wpList P ops Q (o :: rest) a w)) : wpList P ops Q (o :: rest) a w := h.out
theorem call_ex {P : Program} {f : FuncId} {args : Array Value} {w : World} {Q : Ending → World → Prop} (h : ∀ V, V = w → Calls P f args V Q) : Calls P f args w Q := h w rfl
/-- A whole row stored: the world behind it under a name. -/
theorem rowStored {w : World} {g : Nat} {old : Array Value} {t : TypeId} (h : w.heap[g]? = some (.cells old t (0, 0))) (cells : Array Value) :
    ∃ V, V = w.setRow g cells ∧ V.heap[g]? = some (.cells cells t (0, 0)) ∧ (∀ b, b ≠ g → V.heap[b]? = w.heap[b]?) ∧ V.heap.size = w.heap.size ∧ V.os = w.os ∧ V.tape = w.tape ∧ V.output = w.output :=
  ⟨_, rfl, setRow_heap w g old cells t (0, 0) h, fun b hb => setRow_other w g b cells hb, by simp [World.setRow], rfl, rfl, rfl⟩
/-- The worlds of a round: the numbers' block, the ask's block, the rows, the reader. -/
structure Mid (w V : World) (g N xb Q : Nat) (c : Array Value) (ns : List Int) (a' : Option Addr) (cap' : Nat) (rs : List Rq) : Prop where
  ask : V.heap[xb]? = some (.cells c 34 (0, 0))
  num : V.heap[N]? = some (.cells (nums ns) 3 (0, 0))
  row : Row V (N + 1) 34 a' cap' 5 Rq.cs rs
  rdr : Rdr V g Q
  grown : w.grownBy V (some g)
  apart : ∀ g', rowBlk a' cap' = some g' → g' < xb
theorem Mid.setAsk {w V V' : World} {g N xb Q : Nat} {c c' : Array Value} {ns : List Int} {a' : Option Addr} {cap' : Nat} {rs : List Rq} (h : Mid w V g N xb Q c ns a' cap' rs) (hx : V'.heap[xb]? = some (.cells c' 34 (0, 0))) (ho : ∀ b, b ≠ xb → V'.heap[b]? = V.heap[b]?) (hs : V'.heap.size = V.heap.size) (h1 : V'.os = V.os) (h2 : V'.tape = V.tape) (h3 : V'.output = V.output) (hN : N < xb) (hg : g < N) (hw : w.heap.size ≤ xb) : Mid w V' g N xb Q c' ns a' cap' rs := by
  have hb : Below xb V V' := ⟨h1, h2, h3, by omega, fun b hb => ho b (by omega)⟩
  refine ⟨hx, (ho N (by omega)).trans h.num, ⟨h.row.len, h.row.max, fun hc => ?_⟩, h.rdr.below (hb.mono (by omega)), ⟨h1.trans h.grown.os, h2.trans h.grown.tape, h3.trans h.grown.output, by have := h.grown.size; omega, fun i hi hne => (ho i (by omega)).trans (h.grown.block i hi hne)⟩, h.apart⟩
  obtain ⟨g', cur, rfl, q2, q3, q4⟩ := h.row.own hc
  exact ⟨g', cur, rfl, q2, (ho g' (by have := h.apart g' (by simp [rowBlk]; omega); omega)).trans q3, q4⟩
theorem Mid.setNum {w V V' : World} {g N xb Q : Nat} {c : Array Value} {ns ns' : List Int} {a' : Option Addr} {cap' : Nat} {rs : List Rq} (h : Mid w V g N xb Q c ns a' cap' rs) (hx : V'.heap[N]? = some (.cells (nums ns') 3 (0, 0))) (ho : ∀ b, b ≠ N → V'.heap[b]? = V.heap[b]?) (hs : V'.heap.size = V.heap.size) (h1 : V'.os = V.os) (h2 : V'.tape = V.tape) (h3 : V'.output = V.output) (hN : N < xb) (hg : g < N) (hw : w.heap.size ≤ N) : Mid w V' g N xb Q c ns' a' cap' rs := by
  have hb : Below N V V' := ⟨h1, h2, h3, by omega, fun b hb => ho b (by omega)⟩
  refine ⟨(ho xb (by omega)).trans h.ask, hx, ⟨h.row.len, h.row.max, fun hc => ?_⟩, h.rdr.below (hb.mono (by omega)), ⟨h1.trans h.grown.os, h2.trans h.grown.tape, h3.trans h.grown.output, by have := h.grown.size; omega, fun i hi hne => (ho i (by omega)).trans (h.grown.block i hi hne)⟩, h.apart⟩
  obtain ⟨g', cur, rfl, q2, q3, q4⟩ := h.row.own hc
  exact ⟨g', cur, rfl, q2, (ho g' (by omega)).trans q3, q4⟩
theorem Mid.cellAsk {w V : World} {g N xb Q : Nat} {c : Array Value} {ns : List Int} {a' : Option Addr} {cap' : Nat} {rs : List Rq} (h : Mid w V g N xb Q c ns a' cap' rs) (i : Nat) (v : Value) (hN : N < xb) (hg : g < N) (hw : w.heap.size ≤ xb) : Mid w (V.setCell ⟨xb, i, none⟩ v) g N xb Q (c.setIfInBounds i v) ns a' cap' rs :=
  h.setAsk (block_setCell h.ask v) (fun b hb => Below.heap_setCell _ _ _ _ (by simpa using hb)) (by simp [World.setCell]) rfl rfl rfl hN hg hw
theorem Mid.cellNum {w V : World} {g N xb Q : Nat} {c : Array Value} {ns : List Int} {a' : Option Addr} {cap' : Nat} {rs : List Rq} (h : Mid w V g N xb Q c ns a' cap' rs) (j : Nat) (v : Int) (hN : N < xb) (hg : g < N) (hw : w.heap.size ≤ N) : Mid w (V.setCell ⟨N, j, none⟩ (.int .i64 v)) g N xb Q c (ns.set j v) a' cap' rs :=
  h.setNum (by rw [block_setCell h.num, nums_set]) (fun b hb => Below.heap_setCell _ _ _ _ (by simpa using hb)) (by simp [World.setCell]) rfl rfl rfl hN hg hw
theorem Mid.reAlloc {w w2 : World} {g N Q : Nat} {c c' : Array Value} {ns : List Int} {a' : Option Addr} {cap' : Nat} {rs : List Rq} (h : Mid w (w2.alloc (.cells c 34)) g N w2.heap.size Q c ns a' cap' rs) (hN : N < w2.heap.size) (hg : g < N) (hw : w.heap.size ≤ w2.heap.size) : Mid w (w2.alloc (.cells c' 34)) g N w2.heap.size Q c' ns a' cap' rs := by
  refine h.setAsk (heap_alloc_new w2 _) (fun b hb => ?_) (by simp) rfl rfl rfl hN hg hw
  by_cases hlt : b < w2.heap.size
  · rw [Below.heap_alloc _ _ _ hlt, Below.heap_alloc _ _ _ hlt]
  · rw [Array.getElem?_eq_none (by simp; omega), Array.getElem?_eq_none (by simp; omega)]
theorem Mid.read {w V V' : World} {g N xb Q : Nat} {c : Array Value} {ns : List Int} {a' : Option Addr} {cap' : Nat} {rs : List Rq} (h : Mid w V g N xb Q c ns a' cap' rs) (k : V.grownBy V' (some g)) (r : Rdr V' g (Q + 1)) (hN : N < xb) (hg : g < N) : Mid w V' g N xb (Q + 1) c ns a' cap' rs :=
  ⟨carry k (by omega) h.ask, carry k (by omega) h.num, h.row.kept k (fun g' hg' e => by have := (h.row.blk hg').1; injection e; omega), r, grown_trans h.grown k, h.apart⟩

set_option maxRecDepth 100000 in
set_option maxHeartbeats 8000000 in
theorem l20Reqs_c (w : World) (g P most : Nat) (hr : Rdr w g P) (hP : P ≤ 1099511600000) (hmost : most ≤ 100) :
    Calls Try.prog 87 #[.pointer (some ⟨g, 0, none⟩), .int .i64 most] w (ReqsDrawn w g P most) := by
  have hlt := hr.lt
  go_enter Try.func87, Try.ntmps87
  go_wp2_with fail
  obtain ⟨W, hW, sW, aW, bW, kW⟩ := blocks2 w (.cells #[] 34) (.cells #[.int .i64 0, .int .i64 0, .int .i64 0] 3)
  rw [← hW]
  clear hW
  refine (pick_c W g P ((most : Int) + 1) (hr.below (kW.mono (by omega))) (by omega) (by omega)).mono ?_
  rintro e w1 ⟨v, rfl, a1, b1, -, r1, k1⟩
  replace b1 := b1 (by omega)
  obtain ⟨m0, rfl⟩ := Int.eq_ofNat_of_zero_le a1
  have hs1 : w.heap.size + 2 ≤ w1.heap.size := by have := k1.size; omega
  have K1 : w.grownBy w1 (some g) := grown_trans (grown_of_below kW _) k1
  have bN : w1.heap[w.heap.size + 1]? = some (.cells (nums [0, 0, 0]) 3 (0, 0)) := carry k1 (by omega) bW
  clear k1 kW aW bW
  go_wp2_with fail
  go_loopw [5, 7] (fun out i wr => ∃ (rs : List Rq) (a' : Option Addr) (cap' m : Nat) (ns : List Int), i = .int .i64 m ∧ rs.length + m ≤ most ∧ out = .slice a' rs.length cap' ∧ rs.all good = true ∧ Row wr (w.heap.size + 2) 34 a' cap' 5 Rq.cs rs ∧ Rdr wr g (P + 1 + 7 * rs.length) ∧ w.grownBy wr (some g) ∧
    ns.length = 3 ∧ (∀ v ∈ ns, 0 ≤ v ∧ v ≤ 30) ∧ wr.heap[w.heap.size + 1]? = some (.cells (nums ns) 3 (0, 0)) ∧ w.heap.size + 2 ≤ wr.heap.size) (fun _ i _ => (intOf i).toNat)
  case atStart => exact ⟨[], some ⟨w.heap.size, 0, none⟩, 0, m0, [0, 0, 0], rfl, by simp; omega, rfl, rfl, Row.nil _ _ _ _ _ _, r1, K1, rfl, by simp, bN, hs1⟩
  case round =>
    obtain ⟨rs, a', cap', m, ns, rfl, hlm, rfl, hgood, hrow, hr', hgw, hnl, hnb, hN, hsz⟩ := hrel
    have HROW := Lib.hid hrow
    have HG := Lib.hid hgood
    have HNB := Lib.hid hnb
    clear hrow hgood hnb bN K1 r1
    by_cases hm : (m : Int) ≤ 0
    · go_wp2_with fail
      go_ret
      exact ⟨rs, a', cap', rfl, by omega, HG.out, HROW.out.low (by omega), hr'.mono (by omega), hgw⟩
    · have hlt' := hr'.lt
      go_wp2_with fail
      refine (l20Req_c wr g _ hr' (by omega)).mono ?_
      rintro e w2 ⟨r, rfl, hok, hc3, r2, k2⟩
      have hN2 := carry k2 (by omega) hN
      have hs2 : w.heap.size + 2 ≤ w2.heap.size := Nat.le_trans hsz k2.size
      have hl2 : w.heap.size + 1 < w2.heap.size := by omega
      have hrow2 := Lib.hid (HROW.out.kept k2 (fun g' hg' => by have := (HROW.out.blk hg').1; intro e; injection e; omega))
      have hgw2 := grown_trans hgw k2
      obtain ⟨j, hj⟩ : ∃ j : Nat, r.c = (j : Int) + 1 := by
        have := (ok_client hok).1
        exact ⟨(r.c - 1).toNat, by omega⟩
      have hj3 : j < ns.length := by omega
      have hcN := nums_get hj3
      have hvb := HNB.out ns[j] (List.getElem_mem _)
      generalize hv : ns[j] = v at *
      have hcell : w2.cell? ⟨w.heap.size + 1, j, none⟩ = some (.int .i64 v) := (cell_of_block hN2 j).trans hcN
      have hfr := unfrozen_of_block hN2 j
      obtain ⟨c, n, o, x, y⟩ := r
      simp only at hj hok hc3 ⊢
      subst hj
      have HM2 := Lib.hid (show Mid w (w2.alloc (.cells #[.int .i64 ((j : Int) + 1), .int .i64 n, .int .i64 o, .int .i64 x, .int .i64 y] 34)) g (w.heap.size + 1) w2.heap.size (P + 1 + 7 * rs.length + 5) #[.int .i64 ((j : Int) + 1), .int .i64 n, .int .i64 o, .int .i64 x, .int .i64 y] ns a' cap' rs from
        ⟨heap_alloc_new w2 _, by rw [Below.heap_alloc _ _ _ hl2]; exact hN2, hrow2.out.alloc _, r2.below (by repeat' (first | with_reducible exact Below.refl _ _ | with_reducible assumption | with_reducible refine Below.alloc ?_ ?_ _ | with_reducible refine Below.drew ?_ | with_reducible refine Below.setCell ?_ ?_ _ | omega | (simp; omega) | (simp; done))), grown_alloc hgw2 _, fun g' hg' => (hrow2.out.blk hg').2⟩)
      have HOK := Lib.hid hok
      have HCN := Lib.hid hcN
      have HNL := Lib.hid hnl
      have hgN : g < w.heap.size + 1 := by omega
      have hwN : w.heap.size ≤ w.heap.size + 1 := by omega
      have hwX : w.heap.size ≤ w2.heap.size := by omega
      clear hN2 hcN hok k2 hgw2 HROW hv hrow2 hr' hN
      by_cases hv30 : v < 30
      · go_wp2_with fail
        refine (pick_c _ g _ 8 HM2.out.rdr (by omega) (by omega)).mono ?_
        rintro e w3 ⟨p8, rfl, a8, -, -, r3, k3⟩
        have HM3 := Lib.hid (HM2.out.read k3 r3 hl2 hgN)
        clear r3 k3 HM2 hcell hfr
        have cX := cell_of_block HM3.out.ask
        have fX := unfrozen_of_block HM3.out.ask
        have cN := (cell_of_block HM3.out.num j).trans HCN.out
        have fN := unfrozen_of_block HM3.out.num j
        have hneXN : w2.heap.size ≠ w.heap.size + 1 := by omega
        have hneNX : w.heap.size + 1 ≠ w2.heap.size := by omega
        by_cases hp : 0 < p8
        · by_cases hv0 : v = 0
          · subst hv0
            have HS := Lib.hid ((HM3.out.cellNum j 1 hl2 hgN hwN).cellAsk 1 (.int .i64 1) hl2 hgN hwX)
            go_wp2_with (first
              | (refine wpList_store_rowTo rfl 34 _ _ rfl rfl w2.heap.size #[.int .i64 (↑j + 1), .int .i64 1, .int .i64 1, .int .i64 0, .int .i64 0] rfl rfl 34 _ HS.out.ask (by kernel_rfl) (by first | rfl | simp) (by first | kernel_rfl | simp [Value.oneCell']) ?_
                 obtain ⟨V, hV, vx, vo, vs, v1, v2, v3⟩ := rowStored HS.out.ask #[.int .i64 (↑j + 1), .int .i64 1, .int .i64 1, .int .i64 0, .int .i64 0]
                 rw [← hV]
                 have HM := Lib.hid (HS.out.setAsk vx vo vs v1 v2 v3 hl2 hgN hwX)
                 clear hV vx vo vs v1 v2 v3
                 go_wp2_with fail))
            clear HS HM3 cX cN fX fN
            refine (pick_c V g _ 12 HM.out.rdr (by omega) (by omega)).mono ?_
            rintro e w4 ⟨p12, rfl, a12, -, -, r4, k4⟩
            have HM4 := Lib.hid (HM.out.read k4 r4 hl2 hgN)
            clear r4 k4 HM
            by_cases h12 : p12 = 0
            · subst h12
              go_wp2_with (first
                | (refine wpList_store_rowTo rfl 34 _ _ rfl rfl w2.heap.size #[.int .i64 0, .int .i64 0, .int .i64 0, .int .i64 0, .int .i64 0] rfl rfl 34 _ HM4.out.ask (by kernel_rfl) rfl (by first | kernel_rfl | simp [Value.oneCell']) ?_
                   obtain ⟨V5, hV5, vx, vo, vs, v1, v2, v3⟩ := rowStored HM4.out.ask #[.int .i64 0, .int .i64 0, .int .i64 0, .int .i64 0, .int .i64 0]
                   rw [← hV5]
                   have HM5 := Lib.hid (HM4.out.setAsk vx vo vs v1 v2 v3 hl2 hgN hwX)
                   clear hV5 vx vo vs v1 v2 v3
                   have cX := cell_of_block HM5.out.ask
                   have hsW5 : w.heap.size + 2 ≤ V5.heap.size := by have := lt_of_block HM5.out.ask; omega
                   have P11 := Lib.hid (HM5.out.row.alloc (.cells #[.int .i64 0, .int .i64 0, .int .i64 0, .int .i64 0, .int .i64 0] 34))
                   go_wp2_with (at_builtin; refine wpList_append_row rfl _ _ rfl (rs.length + 1) eltReq rfl rfl P11.out (rowsAt_req _ ⟨0, 0, 0, 0, 0⟩ _) rfl rfl rfl (by simp only [maxLen]; omega) (by omega) (by simp <;> omega) ?_)))
              intro a5 cap5 w5 q5
              clear cX
              have hblk5 : ∀ g', rowBlk a' cap' = some g' → w.heap.size + 2 ≤ g' := fun g' hg' => (HM5.out.row.blk hg').1
              have hsW : w.heap.size + 2 ≤ V5.heap.size := by have := lt_of_block HM5.out.ask; omega
              have hb5 : Below (w.heap.size + 2) V5 w5 := Below.grown ((Below.refl _ _).alloc hsW _) q5.grown (by simp <;> omega) hblk5
              have hgood5 : (rs ++ [(⟨0, 0, 0, 0, 0⟩ : Rq)]).all good = true := by
                rw [List.all_append, HG.out, Bool.true_and]
                simp only [List.all_cons, List.all_nil, Bool.and_true]
                exact by decide
              have HF := Lib.hid (And.intro hgood5 (And.intro q5.row (And.intro ((HM5.out.rdr.below (hb5.mono (by omega))).mono (show _ ≤ P + 1 + 7 * (rs.length + 1) by omega)) (And.intro (show w.grownBy w5 (some g) from ⟨hb5.os.trans HM5.out.grown.os, hb5.tape.trans HM5.out.grown.tape, hb5.output.trans HM5.out.grown.output, Nat.le_trans HM5.out.grown.size hb5.size, fun i hi hne => (hb5.block i (by omega)).trans (HM5.out.grown.block i hi hne)⟩) (And.intro ((hb5.block _ (by omega)).trans HM5.out.num) (Nat.le_trans hsW hb5.size))))))
              clear hblk5 hsW hb5 hgood5 q5 P11
              go_wp2_with fail
              go_roundw
              case rel => exact ⟨rs ++ [⟨0, 0, 0, 0, 0⟩], a5, cap5, m - 1, ns.set j 1, by go_num, by rw [List.length_append]; simp; omega, by simp, HF.out.1, HF.out.2.1, by rw [List.length_append]; exact HF.out.2.2.1, HF.out.2.2.2.1, by simp [HNL.out], fun u hu => (List.mem_or_eq_of_mem_set hu).elim (HNB.out u) (fun e => by omega), HF.out.2.2.2.2.1, HF.out.2.2.2.2.2⟩
              case measure => simp [intOf]; omega
            · have P11 := Lib.hid (HM4.out.row.alloc (.cells #[.int .i64 (↑j + 1), .int .i64 1, .int .i64 1, .int .i64 0, .int .i64 0] 34))
              have cX := cell_of_block HM4.out.ask
              have hsW5 : w.heap.size + 2 ≤ w4.heap.size := by have := lt_of_block HM4.out.ask; omega
              go_wp2_with (at_builtin; refine wpList_append_row rfl _ _ rfl (rs.length + 1) eltReq rfl rfl P11.out (rowsAt_req _ ⟨(↑j + 1), 1, 1, 0, 0⟩ _) rfl rfl rfl (by simp only [maxLen]; omega) (by omega) (by simp <;> omega) ?_)
              intro a5 cap5 w5 q5
              clear cX
              have hblk5 : ∀ g', rowBlk a' cap' = some g' → w.heap.size + 2 ≤ g' := fun g' hg' => (HM4.out.row.blk hg').1
              have hsW : w.heap.size + 2 ≤ w4.heap.size := by have := lt_of_block HM4.out.ask; omega
              have hb5 : Below (w.heap.size + 2) w4 w5 := Below.grown ((Below.refl _ _).alloc hsW _) q5.grown (by simp <;> omega) hblk5
              have hgood5 : (rs ++ [(⟨(↑j + 1), 1, 1, 0, 0⟩ : Rq)]).all good = true := by
                rw [List.all_append, HG.out, Bool.true_and]
                simp only [List.all_cons, List.all_nil, Bool.and_true]
                exact good_of_ok (ok_join HOK.out)
              have HF := Lib.hid (And.intro hgood5 (And.intro q5.row (And.intro ((HM4.out.rdr.below (hb5.mono (by omega))).mono (show _ ≤ P + 1 + 7 * (rs.length + 1) by omega)) (And.intro (show w.grownBy w5 (some g) from ⟨hb5.os.trans HM4.out.grown.os, hb5.tape.trans HM4.out.grown.tape, hb5.output.trans HM4.out.grown.output, Nat.le_trans HM4.out.grown.size hb5.size, fun i hi hne => (hb5.block i (by omega)).trans (HM4.out.grown.block i hi hne)⟩) (And.intro ((hb5.block _ (by omega)).trans HM4.out.num) (Nat.le_trans hsW hb5.size))))))
              clear hblk5 hsW hb5 hgood5 q5 P11
              go_wp2_with fail
              go_roundw
              case rel => exact ⟨rs ++ [⟨(↑j + 1), 1, 1, 0, 0⟩], a5, cap5, m - 1, ns.set j 1, by go_num, by rw [List.length_append]; simp; omega, by simp, HF.out.1, HF.out.2.1, by rw [List.length_append]; exact HF.out.2.2.1, HF.out.2.2.2.1, by simp [HNL.out], fun u hu => (List.mem_or_eq_of_mem_set hu).elim (HNB.out u) (fun e => by omega), HF.out.2.2.2.2.1, HF.out.2.2.2.2.2⟩
              case measure => simp [intOf]; omega
          · have hv1 : v + 1 ≠ 1 := by omega
            go_wp2_with fail
            refine call_ex (fun V hV => ?_)
            have HM := Lib.hid (show Mid w V g (w.heap.size + 1) w2.heap.size (P + 1 + 7 * rs.length + 5 + 1) #[.int .i64 (↑j + 1), .int .i64 (v + 1), .int .i64 o, .int .i64 x, .int .i64 y] (ns.set j (v + 1)) a' cap' rs from hV ▸ (HM3.out.cellNum j (v + 1) hl2 hgN hwN).cellAsk 1 (.int .i64 (v + 1)) hl2 hgN hwX)
            clear hV HM3 cX cN fX fN
            refine (pick_c V g _ 12 HM.out.rdr (by omega) (by omega)).mono ?_
            rintro e w4 ⟨p12, rfl, a12, -, -, r4, k4⟩
            have HM4 := Lib.hid (HM.out.read k4 r4 hl2 hgN)
            clear r4 k4 HM
            by_cases h12 : p12 = 0
            · subst h12
              go_wp2_with (first
                | (refine wpList_store_rowTo rfl 34 _ _ rfl rfl w2.heap.size #[.int .i64 0, .int .i64 0, .int .i64 0, .int .i64 0, .int .i64 0] rfl rfl 34 _ HM4.out.ask (by kernel_rfl) rfl (by first | kernel_rfl | simp [Value.oneCell']) ?_
                   obtain ⟨V5, hV5, vx, vo, vs, v1, v2, v3⟩ := rowStored HM4.out.ask #[.int .i64 0, .int .i64 0, .int .i64 0, .int .i64 0, .int .i64 0]
                   rw [← hV5]
                   have HM5 := Lib.hid (HM4.out.setAsk vx vo vs v1 v2 v3 hl2 hgN hwX)
                   clear hV5 vx vo vs v1 v2 v3
                   have cX := cell_of_block HM5.out.ask
                   have hsW5 : w.heap.size + 2 ≤ V5.heap.size := by have := lt_of_block HM5.out.ask; omega
                   have P11 := Lib.hid (HM5.out.row.alloc (.cells #[.int .i64 0, .int .i64 0, .int .i64 0, .int .i64 0, .int .i64 0] 34))
                   go_wp2_with (at_builtin; refine wpList_append_row rfl _ _ rfl (rs.length + 1) eltReq rfl rfl P11.out (rowsAt_req _ ⟨0, 0, 0, 0, 0⟩ _) rfl rfl rfl (by simp only [maxLen]; omega) (by omega) (by simp <;> omega) ?_)))
              intro a5 cap5 w5 q5
              clear cX
              have hblk5 : ∀ g', rowBlk a' cap' = some g' → w.heap.size + 2 ≤ g' := fun g' hg' => (HM5.out.row.blk hg').1
              have hsW : w.heap.size + 2 ≤ V5.heap.size := by have := lt_of_block HM5.out.ask; omega
              have hb5 : Below (w.heap.size + 2) V5 w5 := Below.grown ((Below.refl _ _).alloc hsW _) q5.grown (by simp <;> omega) hblk5
              have hgood5 : (rs ++ [(⟨0, 0, 0, 0, 0⟩ : Rq)]).all good = true := by
                rw [List.all_append, HG.out, Bool.true_and]
                simp only [List.all_cons, List.all_nil, Bool.and_true]
                exact by decide
              have HF := Lib.hid (And.intro hgood5 (And.intro q5.row (And.intro ((HM5.out.rdr.below (hb5.mono (by omega))).mono (show _ ≤ P + 1 + 7 * (rs.length + 1) by omega)) (And.intro (show w.grownBy w5 (some g) from ⟨hb5.os.trans HM5.out.grown.os, hb5.tape.trans HM5.out.grown.tape, hb5.output.trans HM5.out.grown.output, Nat.le_trans HM5.out.grown.size hb5.size, fun i hi hne => (hb5.block i (by omega)).trans (HM5.out.grown.block i hi hne)⟩) (And.intro ((hb5.block _ (by omega)).trans HM5.out.num) (Nat.le_trans hsW hb5.size))))))
              clear hblk5 hsW hb5 hgood5 q5 P11
              go_wp2_with fail
              go_roundw
              case rel => exact ⟨rs ++ [⟨0, 0, 0, 0, 0⟩], a5, cap5, m - 1, ns.set j (v + 1), by go_num, by rw [List.length_append]; simp; omega, by simp, HF.out.1, HF.out.2.1, by rw [List.length_append]; exact HF.out.2.2.1, HF.out.2.2.2.1, by simp [HNL.out], fun u hu => (List.mem_or_eq_of_mem_set hu).elim (HNB.out u) (fun e => by omega), HF.out.2.2.2.2.1, HF.out.2.2.2.2.2⟩
              case measure => simp [intOf]; omega
            · have P11 := Lib.hid (HM4.out.row.alloc (.cells #[.int .i64 (↑j + 1), .int .i64 (v + 1), .int .i64 o, .int .i64 x, .int .i64 y] 34))
              have cX := cell_of_block HM4.out.ask
              have hsW5 : w.heap.size + 2 ≤ w4.heap.size := by have := lt_of_block HM4.out.ask; omega
              go_wp2_with (at_builtin; refine wpList_append_row rfl _ _ rfl (rs.length + 1) eltReq rfl rfl P11.out (rowsAt_req _ ⟨(↑j + 1), (v + 1), o, x, y⟩ _) rfl rfl rfl (by simp only [maxLen]; omega) (by omega) (by simp <;> omega) ?_)
              intro a5 cap5 w5 q5
              clear cX
              have hblk5 : ∀ g', rowBlk a' cap' = some g' → w.heap.size + 2 ≤ g' := fun g' hg' => (HM4.out.row.blk hg').1
              have hsW : w.heap.size + 2 ≤ w4.heap.size := by have := lt_of_block HM4.out.ask; omega
              have hb5 : Below (w.heap.size + 2) w4 w5 := Below.grown ((Below.refl _ _).alloc hsW _) q5.grown (by simp <;> omega) hblk5
              have hgood5 : (rs ++ [(⟨(↑j + 1), (v + 1), o, x, y⟩ : Rq)]).all good = true := by
                rw [List.all_append, HG.out, Bool.true_and]
                simp only [List.all_cons, List.all_nil, Bool.and_true]
                exact good_of_ok (ok_num HOK.out (by omega) (by omega))
              have HF := Lib.hid (And.intro hgood5 (And.intro q5.row (And.intro ((HM4.out.rdr.below (hb5.mono (by omega))).mono (show _ ≤ P + 1 + 7 * (rs.length + 1) by omega)) (And.intro (show w.grownBy w5 (some g) from ⟨hb5.os.trans HM4.out.grown.os, hb5.tape.trans HM4.out.grown.tape, hb5.output.trans HM4.out.grown.output, Nat.le_trans HM4.out.grown.size hb5.size, fun i hi hne => (hb5.block i (by omega)).trans (HM4.out.grown.block i hi hne)⟩) (And.intro ((hb5.block _ (by omega)).trans HM4.out.num) (Nat.le_trans hsW hb5.size))))))
              clear hblk5 hsW hb5 hgood5 q5 P11
              go_wp2_with fail
              go_roundw
              case rel => exact ⟨rs ++ [⟨(↑j + 1), (v + 1), o, x, y⟩], a5, cap5, m - 1, ns.set j (v + 1), by go_num, by rw [List.length_append]; simp; omega, by simp, HF.out.1, HF.out.2.1, by rw [List.length_append]; exact HF.out.2.2.1, HF.out.2.2.2.1, by simp [HNL.out], fun u hu => (List.mem_or_eq_of_mem_set hu).elim (HNB.out u) (fun e => by omega), HF.out.2.2.2.2.1, HF.out.2.2.2.2.2⟩
              case measure => simp [intOf]; omega
        · by_cases hv0 : v = 0
          · subst hv0
            by_cases hn1 : n = 1
            · subst hn1
              have HS := Lib.hid (HM3.out)
              go_wp2_with (first
                | (refine wpList_store_rowTo rfl 34 _ _ rfl rfl w2.heap.size #[.int .i64 (↑j + 1), .int .i64 1, .int .i64 1, .int .i64 0, .int .i64 0] rfl rfl 34 _ HS.out.ask (by kernel_rfl) (by first | rfl | simp) (by first | kernel_rfl | simp [Value.oneCell']) ?_
                   obtain ⟨V, hV, vx, vo, vs, v1, v2, v3⟩ := rowStored HS.out.ask #[.int .i64 (↑j + 1), .int .i64 1, .int .i64 1, .int .i64 0, .int .i64 0]
                   rw [← hV]
                   have HM := Lib.hid (HS.out.setAsk vx vo vs v1 v2 v3 hl2 hgN hwX)
                   clear hV vx vo vs v1 v2 v3
                   go_wp2_with fail))
              clear HS HM3 cX cN fX fN
              refine (pick_c V g _ 12 HM.out.rdr (by omega) (by omega)).mono ?_
              rintro e w4 ⟨p12, rfl, a12, -, -, r4, k4⟩
              have HM4 := Lib.hid (HM.out.read k4 r4 hl2 hgN)
              clear r4 k4 HM
              by_cases h12 : p12 = 0
              · subst h12
                go_wp2_with (first
                  | (refine wpList_store_rowTo rfl 34 _ _ rfl rfl w2.heap.size #[.int .i64 0, .int .i64 0, .int .i64 0, .int .i64 0, .int .i64 0] rfl rfl 34 _ HM4.out.ask (by kernel_rfl) rfl (by first | kernel_rfl | simp [Value.oneCell']) ?_
                     obtain ⟨V5, hV5, vx, vo, vs, v1, v2, v3⟩ := rowStored HM4.out.ask #[.int .i64 0, .int .i64 0, .int .i64 0, .int .i64 0, .int .i64 0]
                     rw [← hV5]
                     have HM5 := Lib.hid (HM4.out.setAsk vx vo vs v1 v2 v3 hl2 hgN hwX)
                     clear hV5 vx vo vs v1 v2 v3
                     have cX := cell_of_block HM5.out.ask
                     have hsW5 : w.heap.size + 2 ≤ V5.heap.size := by have := lt_of_block HM5.out.ask; omega
                     have P11 := Lib.hid (HM5.out.row.alloc (.cells #[.int .i64 0, .int .i64 0, .int .i64 0, .int .i64 0, .int .i64 0] 34))
                     go_wp2_with (at_builtin; refine wpList_append_row rfl _ _ rfl (rs.length + 1) eltReq rfl rfl P11.out (rowsAt_req _ ⟨0, 0, 0, 0, 0⟩ _) rfl rfl rfl (by simp only [maxLen]; omega) (by omega) (by simp <;> omega) ?_)))
                intro a5 cap5 w5 q5
                clear cX
                have hblk5 : ∀ g', rowBlk a' cap' = some g' → w.heap.size + 2 ≤ g' := fun g' hg' => (HM5.out.row.blk hg').1
                have hsW : w.heap.size + 2 ≤ V5.heap.size := by have := lt_of_block HM5.out.ask; omega
                have hb5 : Below (w.heap.size + 2) V5 w5 := Below.grown ((Below.refl _ _).alloc hsW _) q5.grown (by simp <;> omega) hblk5
                have hgood5 : (rs ++ [(⟨0, 0, 0, 0, 0⟩ : Rq)]).all good = true := by
                  rw [List.all_append, HG.out, Bool.true_and]
                  simp only [List.all_cons, List.all_nil, Bool.and_true]
                  exact by decide
                have HF := Lib.hid (And.intro hgood5 (And.intro q5.row (And.intro ((HM5.out.rdr.below (hb5.mono (by omega))).mono (show _ ≤ P + 1 + 7 * (rs.length + 1) by omega)) (And.intro (show w.grownBy w5 (some g) from ⟨hb5.os.trans HM5.out.grown.os, hb5.tape.trans HM5.out.grown.tape, hb5.output.trans HM5.out.grown.output, Nat.le_trans HM5.out.grown.size hb5.size, fun i hi hne => (hb5.block i (by omega)).trans (HM5.out.grown.block i hi hne)⟩) (And.intro ((hb5.block _ (by omega)).trans HM5.out.num) (Nat.le_trans hsW hb5.size))))))
                clear hblk5 hsW hb5 hgood5 q5 P11
                go_wp2_with fail
                go_roundw
                case rel => exact ⟨rs ++ [⟨0, 0, 0, 0, 0⟩], a5, cap5, m - 1, ns, by go_num, by rw [List.length_append]; simp; omega, by simp, HF.out.1, HF.out.2.1, by rw [List.length_append]; exact HF.out.2.2.1, HF.out.2.2.2.1, HNL.out, HNB.out, HF.out.2.2.2.2.1, HF.out.2.2.2.2.2⟩
                case measure => simp [intOf]; omega
              · have P11 := Lib.hid (HM4.out.row.alloc (.cells #[.int .i64 (↑j + 1), .int .i64 1, .int .i64 1, .int .i64 0, .int .i64 0] 34))
                have cX := cell_of_block HM4.out.ask
                have hsW5 : w.heap.size + 2 ≤ w4.heap.size := by have := lt_of_block HM4.out.ask; omega
                go_wp2_with (at_builtin; refine wpList_append_row rfl _ _ rfl (rs.length + 1) eltReq rfl rfl P11.out (rowsAt_req _ ⟨(↑j + 1), 1, 1, 0, 0⟩ _) rfl rfl rfl (by simp only [maxLen]; omega) (by omega) (by simp <;> omega) ?_)
                intro a5 cap5 w5 q5
                clear cX
                have hblk5 : ∀ g', rowBlk a' cap' = some g' → w.heap.size + 2 ≤ g' := fun g' hg' => (HM4.out.row.blk hg').1
                have hsW : w.heap.size + 2 ≤ w4.heap.size := by have := lt_of_block HM4.out.ask; omega
                have hb5 : Below (w.heap.size + 2) w4 w5 := Below.grown ((Below.refl _ _).alloc hsW _) q5.grown (by simp <;> omega) hblk5
                have hgood5 : (rs ++ [(⟨(↑j + 1), 1, 1, 0, 0⟩ : Rq)]).all good = true := by
                  rw [List.all_append, HG.out, Bool.true_and]
                  simp only [List.all_cons, List.all_nil, Bool.and_true]
                  exact good_of_ok (ok_join HOK.out)
                have HF := Lib.hid (And.intro hgood5 (And.intro q5.row (And.intro ((HM4.out.rdr.below (hb5.mono (by omega))).mono (show _ ≤ P + 1 + 7 * (rs.length + 1) by omega)) (And.intro (show w.grownBy w5 (some g) from ⟨hb5.os.trans HM4.out.grown.os, hb5.tape.trans HM4.out.grown.tape, hb5.output.trans HM4.out.grown.output, Nat.le_trans HM4.out.grown.size hb5.size, fun i hi hne => (hb5.block i (by omega)).trans (HM4.out.grown.block i hi hne)⟩) (And.intro ((hb5.block _ (by omega)).trans HM4.out.num) (Nat.le_trans hsW hb5.size))))))
                clear hblk5 hsW hb5 hgood5 q5 P11
                go_wp2_with fail
                go_roundw
                case rel => exact ⟨rs ++ [⟨(↑j + 1), 1, 1, 0, 0⟩], a5, cap5, m - 1, ns, by go_num, by rw [List.length_append]; simp; omega, by simp, HF.out.1, HF.out.2.1, by rw [List.length_append]; exact HF.out.2.2.1, HF.out.2.2.2.1, HNL.out, HNB.out, HF.out.2.2.2.2.1, HF.out.2.2.2.2.2⟩
                case measure => simp [intOf]; omega
            · go_wp2_with fail
              refine call_ex (fun V hV => ?_)
              have HM := Lib.hid (show Mid w V g (w.heap.size + 1) w2.heap.size (P + 1 + 7 * rs.length + 5 + 1) #[.int .i64 (↑j + 1), .int .i64 n, .int .i64 o, .int .i64 x, .int .i64 y] (ns) a' cap' rs from hV ▸ HM3.out)
              clear hV HM3 cX cN fX fN
              refine (pick_c V g _ 12 HM.out.rdr (by omega) (by omega)).mono ?_
              rintro e w4 ⟨p12, rfl, a12, -, -, r4, k4⟩
              have HM4 := Lib.hid (HM.out.read k4 r4 hl2 hgN)
              clear r4 k4 HM
              by_cases h12 : p12 = 0
              · subst h12
                go_wp2_with (first
                  | (refine wpList_store_rowTo rfl 34 _ _ rfl rfl w2.heap.size #[.int .i64 0, .int .i64 0, .int .i64 0, .int .i64 0, .int .i64 0] rfl rfl 34 _ HM4.out.ask (by kernel_rfl) rfl (by first | kernel_rfl | simp [Value.oneCell']) ?_
                     obtain ⟨V5, hV5, vx, vo, vs, v1, v2, v3⟩ := rowStored HM4.out.ask #[.int .i64 0, .int .i64 0, .int .i64 0, .int .i64 0, .int .i64 0]
                     rw [← hV5]
                     have HM5 := Lib.hid (HM4.out.setAsk vx vo vs v1 v2 v3 hl2 hgN hwX)
                     clear hV5 vx vo vs v1 v2 v3
                     have cX := cell_of_block HM5.out.ask
                     have hsW5 : w.heap.size + 2 ≤ V5.heap.size := by have := lt_of_block HM5.out.ask; omega
                     have P11 := Lib.hid (HM5.out.row.alloc (.cells #[.int .i64 0, .int .i64 0, .int .i64 0, .int .i64 0, .int .i64 0] 34))
                     go_wp2_with (at_builtin; refine wpList_append_row rfl _ _ rfl (rs.length + 1) eltReq rfl rfl P11.out (rowsAt_req _ ⟨0, 0, 0, 0, 0⟩ _) rfl rfl rfl (by simp only [maxLen]; omega) (by omega) (by simp <;> omega) ?_)))
                intro a5 cap5 w5 q5
                clear cX
                have hblk5 : ∀ g', rowBlk a' cap' = some g' → w.heap.size + 2 ≤ g' := fun g' hg' => (HM5.out.row.blk hg').1
                have hsW : w.heap.size + 2 ≤ V5.heap.size := by have := lt_of_block HM5.out.ask; omega
                have hb5 : Below (w.heap.size + 2) V5 w5 := Below.grown ((Below.refl _ _).alloc hsW _) q5.grown (by simp <;> omega) hblk5
                have hgood5 : (rs ++ [(⟨0, 0, 0, 0, 0⟩ : Rq)]).all good = true := by
                  rw [List.all_append, HG.out, Bool.true_and]
                  simp only [List.all_cons, List.all_nil, Bool.and_true]
                  exact by decide
                have HF := Lib.hid (And.intro hgood5 (And.intro q5.row (And.intro ((HM5.out.rdr.below (hb5.mono (by omega))).mono (show _ ≤ P + 1 + 7 * (rs.length + 1) by omega)) (And.intro (show w.grownBy w5 (some g) from ⟨hb5.os.trans HM5.out.grown.os, hb5.tape.trans HM5.out.grown.tape, hb5.output.trans HM5.out.grown.output, Nat.le_trans HM5.out.grown.size hb5.size, fun i hi hne => (hb5.block i (by omega)).trans (HM5.out.grown.block i hi hne)⟩) (And.intro ((hb5.block _ (by omega)).trans HM5.out.num) (Nat.le_trans hsW hb5.size))))))
                clear hblk5 hsW hb5 hgood5 q5 P11
                go_wp2_with fail
                go_roundw
                case rel => exact ⟨rs ++ [⟨0, 0, 0, 0, 0⟩], a5, cap5, m - 1, ns, by go_num, by rw [List.length_append]; simp; omega, by simp, HF.out.1, HF.out.2.1, by rw [List.length_append]; exact HF.out.2.2.1, HF.out.2.2.2.1, HNL.out, HNB.out, HF.out.2.2.2.2.1, HF.out.2.2.2.2.2⟩
                case measure => simp [intOf]; omega
              · have P11 := Lib.hid (HM4.out.row.alloc (.cells #[.int .i64 (↑j + 1), .int .i64 n, .int .i64 o, .int .i64 x, .int .i64 y] 34))
                have cX := cell_of_block HM4.out.ask
                have hsW5 : w.heap.size + 2 ≤ w4.heap.size := by have := lt_of_block HM4.out.ask; omega
                go_wp2_with (at_builtin; refine wpList_append_row rfl _ _ rfl (rs.length + 1) eltReq rfl rfl P11.out (rowsAt_req _ ⟨(↑j + 1), n, o, x, y⟩ _) rfl rfl rfl (by simp only [maxLen]; omega) (by omega) (by simp <;> omega) ?_)
                intro a5 cap5 w5 q5
                clear cX
                have hblk5 : ∀ g', rowBlk a' cap' = some g' → w.heap.size + 2 ≤ g' := fun g' hg' => (HM4.out.row.blk hg').1
                have hsW : w.heap.size + 2 ≤ w4.heap.size := by have := lt_of_block HM4.out.ask; omega
                have hb5 : Below (w.heap.size + 2) w4 w5 := Below.grown ((Below.refl _ _).alloc hsW _) q5.grown (by simp <;> omega) hblk5
                have hgood5 : (rs ++ [(⟨(↑j + 1), n, o, x, y⟩ : Rq)]).all good = true := by
                  rw [List.all_append, HG.out, Bool.true_and]
                  simp only [List.all_cons, List.all_nil, Bool.and_true]
                  exact good_of_ok HOK.out
                have HF := Lib.hid (And.intro hgood5 (And.intro q5.row (And.intro ((HM4.out.rdr.below (hb5.mono (by omega))).mono (show _ ≤ P + 1 + 7 * (rs.length + 1) by omega)) (And.intro (show w.grownBy w5 (some g) from ⟨hb5.os.trans HM4.out.grown.os, hb5.tape.trans HM4.out.grown.tape, hb5.output.trans HM4.out.grown.output, Nat.le_trans HM4.out.grown.size hb5.size, fun i hi hne => (hb5.block i (by omega)).trans (HM4.out.grown.block i hi hne)⟩) (And.intro ((hb5.block _ (by omega)).trans HM4.out.num) (Nat.le_trans hsW hb5.size))))))
                clear hblk5 hsW hb5 hgood5 q5 P11
                go_wp2_with fail
                go_roundw
                case rel => exact ⟨rs ++ [⟨(↑j + 1), n, o, x, y⟩], a5, cap5, m - 1, ns, by go_num, by rw [List.length_append]; simp; omega, by simp, HF.out.1, HF.out.2.1, by rw [List.length_append]; exact HF.out.2.2.1, HF.out.2.2.2.1, HNL.out, HNB.out, HF.out.2.2.2.2.1, HF.out.2.2.2.2.2⟩
                case measure => simp [intOf]; omega
          · by_cases hv1 : v = 1
            · subst hv1
              have HS := Lib.hid ((HM3.out).cellAsk 1 (.int .i64 1) hl2 hgN hwX)
              go_wp2_with (first
                | (refine wpList_store_rowTo rfl 34 _ _ rfl rfl w2.heap.size #[.int .i64 (↑j + 1), .int .i64 1, .int .i64 1, .int .i64 0, .int .i64 0] rfl rfl 34 _ HS.out.ask (by kernel_rfl) (by first | rfl | simp) (by first | kernel_rfl | simp [Value.oneCell']) ?_
                   obtain ⟨V, hV, vx, vo, vs, v1, v2, v3⟩ := rowStored HS.out.ask #[.int .i64 (↑j + 1), .int .i64 1, .int .i64 1, .int .i64 0, .int .i64 0]
                   rw [← hV]
                   have HM := Lib.hid (HS.out.setAsk vx vo vs v1 v2 v3 hl2 hgN hwX)
                   clear hV vx vo vs v1 v2 v3
                   go_wp2_with fail))
              clear HS HM3 cX cN fX fN
              refine (pick_c V g _ 12 HM.out.rdr (by omega) (by omega)).mono ?_
              rintro e w4 ⟨p12, rfl, a12, -, -, r4, k4⟩
              have HM4 := Lib.hid (HM.out.read k4 r4 hl2 hgN)
              clear r4 k4 HM
              by_cases h12 : p12 = 0
              · subst h12
                go_wp2_with (first
                  | (refine wpList_store_rowTo rfl 34 _ _ rfl rfl w2.heap.size #[.int .i64 0, .int .i64 0, .int .i64 0, .int .i64 0, .int .i64 0] rfl rfl 34 _ HM4.out.ask (by kernel_rfl) rfl (by first | kernel_rfl | simp [Value.oneCell']) ?_
                     obtain ⟨V5, hV5, vx, vo, vs, v1, v2, v3⟩ := rowStored HM4.out.ask #[.int .i64 0, .int .i64 0, .int .i64 0, .int .i64 0, .int .i64 0]
                     rw [← hV5]
                     have HM5 := Lib.hid (HM4.out.setAsk vx vo vs v1 v2 v3 hl2 hgN hwX)
                     clear hV5 vx vo vs v1 v2 v3
                     have cX := cell_of_block HM5.out.ask
                     have hsW5 : w.heap.size + 2 ≤ V5.heap.size := by have := lt_of_block HM5.out.ask; omega
                     have P11 := Lib.hid (HM5.out.row.alloc (.cells #[.int .i64 0, .int .i64 0, .int .i64 0, .int .i64 0, .int .i64 0] 34))
                     go_wp2_with (at_builtin; refine wpList_append_row rfl _ _ rfl (rs.length + 1) eltReq rfl rfl P11.out (rowsAt_req _ ⟨0, 0, 0, 0, 0⟩ _) rfl rfl rfl (by simp only [maxLen]; omega) (by omega) (by simp <;> omega) ?_)))
                intro a5 cap5 w5 q5
                clear cX
                have hblk5 : ∀ g', rowBlk a' cap' = some g' → w.heap.size + 2 ≤ g' := fun g' hg' => (HM5.out.row.blk hg').1
                have hsW : w.heap.size + 2 ≤ V5.heap.size := by have := lt_of_block HM5.out.ask; omega
                have hb5 : Below (w.heap.size + 2) V5 w5 := Below.grown ((Below.refl _ _).alloc hsW _) q5.grown (by simp <;> omega) hblk5
                have hgood5 : (rs ++ [(⟨0, 0, 0, 0, 0⟩ : Rq)]).all good = true := by
                  rw [List.all_append, HG.out, Bool.true_and]
                  simp only [List.all_cons, List.all_nil, Bool.and_true]
                  exact by decide
                have HF := Lib.hid (And.intro hgood5 (And.intro q5.row (And.intro ((HM5.out.rdr.below (hb5.mono (by omega))).mono (show _ ≤ P + 1 + 7 * (rs.length + 1) by omega)) (And.intro (show w.grownBy w5 (some g) from ⟨hb5.os.trans HM5.out.grown.os, hb5.tape.trans HM5.out.grown.tape, hb5.output.trans HM5.out.grown.output, Nat.le_trans HM5.out.grown.size hb5.size, fun i hi hne => (hb5.block i (by omega)).trans (HM5.out.grown.block i hi hne)⟩) (And.intro ((hb5.block _ (by omega)).trans HM5.out.num) (Nat.le_trans hsW hb5.size))))))
                clear hblk5 hsW hb5 hgood5 q5 P11
                go_wp2_with fail
                go_roundw
                case rel => exact ⟨rs ++ [⟨0, 0, 0, 0, 0⟩], a5, cap5, m - 1, ns, by go_num, by rw [List.length_append]; simp; omega, by simp, HF.out.1, HF.out.2.1, by rw [List.length_append]; exact HF.out.2.2.1, HF.out.2.2.2.1, HNL.out, HNB.out, HF.out.2.2.2.2.1, HF.out.2.2.2.2.2⟩
                case measure => simp [intOf]; omega
              · have P11 := Lib.hid (HM4.out.row.alloc (.cells #[.int .i64 (↑j + 1), .int .i64 1, .int .i64 1, .int .i64 0, .int .i64 0] 34))
                have cX := cell_of_block HM4.out.ask
                have hsW5 : w.heap.size + 2 ≤ w4.heap.size := by have := lt_of_block HM4.out.ask; omega
                go_wp2_with (at_builtin; refine wpList_append_row rfl _ _ rfl (rs.length + 1) eltReq rfl rfl P11.out (rowsAt_req _ ⟨(↑j + 1), 1, 1, 0, 0⟩ _) rfl rfl rfl (by simp only [maxLen]; omega) (by omega) (by simp <;> omega) ?_)
                intro a5 cap5 w5 q5
                clear cX
                have hblk5 : ∀ g', rowBlk a' cap' = some g' → w.heap.size + 2 ≤ g' := fun g' hg' => (HM4.out.row.blk hg').1
                have hsW : w.heap.size + 2 ≤ w4.heap.size := by have := lt_of_block HM4.out.ask; omega
                have hb5 : Below (w.heap.size + 2) w4 w5 := Below.grown ((Below.refl _ _).alloc hsW _) q5.grown (by simp <;> omega) hblk5
                have hgood5 : (rs ++ [(⟨(↑j + 1), 1, 1, 0, 0⟩ : Rq)]).all good = true := by
                  rw [List.all_append, HG.out, Bool.true_and]
                  simp only [List.all_cons, List.all_nil, Bool.and_true]
                  exact good_of_ok (ok_join HOK.out)
                have HF := Lib.hid (And.intro hgood5 (And.intro q5.row (And.intro ((HM4.out.rdr.below (hb5.mono (by omega))).mono (show _ ≤ P + 1 + 7 * (rs.length + 1) by omega)) (And.intro (show w.grownBy w5 (some g) from ⟨hb5.os.trans HM4.out.grown.os, hb5.tape.trans HM4.out.grown.tape, hb5.output.trans HM4.out.grown.output, Nat.le_trans HM4.out.grown.size hb5.size, fun i hi hne => (hb5.block i (by omega)).trans (HM4.out.grown.block i hi hne)⟩) (And.intro ((hb5.block _ (by omega)).trans HM4.out.num) (Nat.le_trans hsW hb5.size))))))
                clear hblk5 hsW hb5 hgood5 q5 P11
                go_wp2_with fail
                go_roundw
                case rel => exact ⟨rs ++ [⟨(↑j + 1), 1, 1, 0, 0⟩], a5, cap5, m - 1, ns, by go_num, by rw [List.length_append]; simp; omega, by simp, HF.out.1, HF.out.2.1, by rw [List.length_append]; exact HF.out.2.2.1, HF.out.2.2.2.1, HNL.out, HNB.out, HF.out.2.2.2.2.1, HF.out.2.2.2.2.2⟩
                case measure => simp [intOf]; omega
            · go_wp2_with fail
              refine call_ex (fun V hV => ?_)
              have HM := Lib.hid (show Mid w V g (w.heap.size + 1) w2.heap.size (P + 1 + 7 * rs.length + 5 + 1) #[.int .i64 (↑j + 1), .int .i64 v, .int .i64 o, .int .i64 x, .int .i64 y] (ns) a' cap' rs from hV ▸ (HM3.out).cellAsk 1 (.int .i64 v) hl2 hgN hwX)
              clear hV HM3 cX cN fX fN
              refine (pick_c V g _ 12 HM.out.rdr (by omega) (by omega)).mono ?_
              rintro e w4 ⟨p12, rfl, a12, -, -, r4, k4⟩
              have HM4 := Lib.hid (HM.out.read k4 r4 hl2 hgN)
              clear r4 k4 HM
              by_cases h12 : p12 = 0
              · subst h12
                go_wp2_with (first
                  | (refine wpList_store_rowTo rfl 34 _ _ rfl rfl w2.heap.size #[.int .i64 0, .int .i64 0, .int .i64 0, .int .i64 0, .int .i64 0] rfl rfl 34 _ HM4.out.ask (by kernel_rfl) rfl (by first | kernel_rfl | simp [Value.oneCell']) ?_
                     obtain ⟨V5, hV5, vx, vo, vs, v1, v2, v3⟩ := rowStored HM4.out.ask #[.int .i64 0, .int .i64 0, .int .i64 0, .int .i64 0, .int .i64 0]
                     rw [← hV5]
                     have HM5 := Lib.hid (HM4.out.setAsk vx vo vs v1 v2 v3 hl2 hgN hwX)
                     clear hV5 vx vo vs v1 v2 v3
                     have cX := cell_of_block HM5.out.ask
                     have hsW5 : w.heap.size + 2 ≤ V5.heap.size := by have := lt_of_block HM5.out.ask; omega
                     have P11 := Lib.hid (HM5.out.row.alloc (.cells #[.int .i64 0, .int .i64 0, .int .i64 0, .int .i64 0, .int .i64 0] 34))
                     go_wp2_with (at_builtin; refine wpList_append_row rfl _ _ rfl (rs.length + 1) eltReq rfl rfl P11.out (rowsAt_req _ ⟨0, 0, 0, 0, 0⟩ _) rfl rfl rfl (by simp only [maxLen]; omega) (by omega) (by simp <;> omega) ?_)))
                intro a5 cap5 w5 q5
                clear cX
                have hblk5 : ∀ g', rowBlk a' cap' = some g' → w.heap.size + 2 ≤ g' := fun g' hg' => (HM5.out.row.blk hg').1
                have hsW : w.heap.size + 2 ≤ V5.heap.size := by have := lt_of_block HM5.out.ask; omega
                have hb5 : Below (w.heap.size + 2) V5 w5 := Below.grown ((Below.refl _ _).alloc hsW _) q5.grown (by simp <;> omega) hblk5
                have hgood5 : (rs ++ [(⟨0, 0, 0, 0, 0⟩ : Rq)]).all good = true := by
                  rw [List.all_append, HG.out, Bool.true_and]
                  simp only [List.all_cons, List.all_nil, Bool.and_true]
                  exact by decide
                have HF := Lib.hid (And.intro hgood5 (And.intro q5.row (And.intro ((HM5.out.rdr.below (hb5.mono (by omega))).mono (show _ ≤ P + 1 + 7 * (rs.length + 1) by omega)) (And.intro (show w.grownBy w5 (some g) from ⟨hb5.os.trans HM5.out.grown.os, hb5.tape.trans HM5.out.grown.tape, hb5.output.trans HM5.out.grown.output, Nat.le_trans HM5.out.grown.size hb5.size, fun i hi hne => (hb5.block i (by omega)).trans (HM5.out.grown.block i hi hne)⟩) (And.intro ((hb5.block _ (by omega)).trans HM5.out.num) (Nat.le_trans hsW hb5.size))))))
                clear hblk5 hsW hb5 hgood5 q5 P11
                go_wp2_with fail
                go_roundw
                case rel => exact ⟨rs ++ [⟨0, 0, 0, 0, 0⟩], a5, cap5, m - 1, ns, by go_num, by rw [List.length_append]; simp; omega, by simp, HF.out.1, HF.out.2.1, by rw [List.length_append]; exact HF.out.2.2.1, HF.out.2.2.2.1, HNL.out, HNB.out, HF.out.2.2.2.2.1, HF.out.2.2.2.2.2⟩
                case measure => simp [intOf]; omega
              · have P11 := Lib.hid (HM4.out.row.alloc (.cells #[.int .i64 (↑j + 1), .int .i64 v, .int .i64 o, .int .i64 x, .int .i64 y] 34))
                have cX := cell_of_block HM4.out.ask
                have hsW5 : w.heap.size + 2 ≤ w4.heap.size := by have := lt_of_block HM4.out.ask; omega
                go_wp2_with (at_builtin; refine wpList_append_row rfl _ _ rfl (rs.length + 1) eltReq rfl rfl P11.out (rowsAt_req _ ⟨(↑j + 1), v, o, x, y⟩ _) rfl rfl rfl (by simp only [maxLen]; omega) (by omega) (by simp <;> omega) ?_)
                intro a5 cap5 w5 q5
                clear cX
                have hblk5 : ∀ g', rowBlk a' cap' = some g' → w.heap.size + 2 ≤ g' := fun g' hg' => (HM4.out.row.blk hg').1
                have hsW : w.heap.size + 2 ≤ w4.heap.size := by have := lt_of_block HM4.out.ask; omega
                have hb5 : Below (w.heap.size + 2) w4 w5 := Below.grown ((Below.refl _ _).alloc hsW _) q5.grown (by simp <;> omega) hblk5
                have hgood5 : (rs ++ [(⟨(↑j + 1), v, o, x, y⟩ : Rq)]).all good = true := by
                  rw [List.all_append, HG.out, Bool.true_and]
                  simp only [List.all_cons, List.all_nil, Bool.and_true]
                  exact good_of_ok (ok_num HOK.out (by omega) (by omega))
                have HF := Lib.hid (And.intro hgood5 (And.intro q5.row (And.intro ((HM4.out.rdr.below (hb5.mono (by omega))).mono (show _ ≤ P + 1 + 7 * (rs.length + 1) by omega)) (And.intro (show w.grownBy w5 (some g) from ⟨hb5.os.trans HM4.out.grown.os, hb5.tape.trans HM4.out.grown.tape, hb5.output.trans HM4.out.grown.output, Nat.le_trans HM4.out.grown.size hb5.size, fun i hi hne => (hb5.block i (by omega)).trans (HM4.out.grown.block i hi hne)⟩) (And.intro ((hb5.block _ (by omega)).trans HM4.out.num) (Nat.le_trans hsW hb5.size))))))
                clear hblk5 hsW hb5 hgood5 q5 P11
                go_wp2_with fail
                go_roundw
                case rel => exact ⟨rs ++ [⟨(↑j + 1), v, o, x, y⟩], a5, cap5, m - 1, ns, by go_num, by rw [List.length_append]; simp; omega, by simp, HF.out.1, HF.out.2.1, by rw [List.length_append]; exact HF.out.2.2.1, HF.out.2.2.2.1, HNL.out, HNB.out, HF.out.2.2.2.2.1, HF.out.2.2.2.2.2⟩
                case measure => simp [intOf]; omega

      · have hv30' : 30 ≤ v := by omega
        go_wp2_with fail
        refine call_ex (fun V hV => ?_)
        have HM := Lib.hid (show Mid w V g (w.heap.size + 1) w2.heap.size (P + 1 + 7 * rs.length + 5) #[.int .i64 ((j : Int) + 1), .int .i64 v, .int .i64 o, .int .i64 x, .int .i64 y] ns a' cap' rs from hV ▸ HM2.out.reAlloc hl2 hgN hwX)
        clear hV
        refine (pick_c V g _ 12 HM.out.rdr (by omega) (by omega)).mono ?_
        rintro e w4 ⟨p12, rfl, a12, -, -, r4, k4⟩
        have HM4 := Lib.hid (HM.out.read k4 r4 hl2 hgN)
        clear r4 k4 HM
        by_cases h12 : p12 = 0
        · subst h12
          go_wp2_with (first
            | (refine wpList_store_rowTo rfl 34 _ _ rfl rfl w2.heap.size #[.int .i64 0, .int .i64 0, .int .i64 0, .int .i64 0, .int .i64 0] rfl rfl 34 _ HM4.out.ask (by kernel_rfl) rfl (by first | kernel_rfl | simp [Value.oneCell']) ?_
               obtain ⟨V5, hV5, vx, vo, vs, v1, v2, v3⟩ := rowStored HM4.out.ask #[.int .i64 0, .int .i64 0, .int .i64 0, .int .i64 0, .int .i64 0]
               rw [← hV5]
               have HM5 := Lib.hid (HM4.out.setAsk vx vo vs v1 v2 v3 hl2 hgN hwX)
               clear hV5 vx vo vs v1 v2 v3
               have cX := cell_of_block HM5.out.ask
               have hsW5 : w.heap.size + 2 ≤ V5.heap.size := by have := lt_of_block HM5.out.ask; omega
               have P11 := Lib.hid (HM5.out.row.alloc (.cells #[.int .i64 0, .int .i64 0, .int .i64 0, .int .i64 0, .int .i64 0] 34))
               go_wp2_with (at_builtin; refine wpList_append_row rfl _ _ rfl (rs.length + 1) eltReq rfl rfl P11.out (rowsAt_req _ ⟨0, 0, 0, 0, 0⟩ _) rfl rfl rfl (by simp only [maxLen]; omega) (by omega) (by simp <;> omega) ?_)))
          intro a5 cap5 w5 q5
          clear cX
          have hblk5 : ∀ g', rowBlk a' cap' = some g' → w.heap.size + 2 ≤ g' := fun g' hg' => (HM5.out.row.blk hg').1
          have hsW : w.heap.size + 2 ≤ V5.heap.size := by have := lt_of_block HM5.out.ask; omega
          have hb5 : Below (w.heap.size + 2) V5 w5 := Below.grown ((Below.refl _ _).alloc hsW _) q5.grown (by simp <;> omega) hblk5
          have hgood5 : (rs ++ [(⟨0, 0, 0, 0, 0⟩ : Rq)]).all good = true := by
            rw [List.all_append, HG.out, Bool.true_and]
            simp only [List.all_cons, List.all_nil, Bool.and_true]
            exact by decide
          have HF := Lib.hid (And.intro hgood5 (And.intro q5.row (And.intro ((HM5.out.rdr.below (hb5.mono (by omega))).mono (show _ ≤ P + 1 + 7 * (rs.length + 1) by omega)) (And.intro (show w.grownBy w5 (some g) from ⟨hb5.os.trans HM5.out.grown.os, hb5.tape.trans HM5.out.grown.tape, hb5.output.trans HM5.out.grown.output, Nat.le_trans HM5.out.grown.size hb5.size, fun i hi hne => (hb5.block i (by omega)).trans (HM5.out.grown.block i hi hne)⟩) (And.intro ((hb5.block _ (by omega)).trans HM5.out.num) (Nat.le_trans hsW hb5.size))))))
          clear hblk5 hsW hb5 hgood5 q5 P11
          go_wp2_with fail
          go_roundw
          case rel => exact ⟨rs ++ [⟨0, 0, 0, 0, 0⟩], a5, cap5, m - 1, ns, by go_num, by rw [List.length_append]; simp; omega, by simp, HF.out.1, HF.out.2.1, by rw [List.length_append]; exact HF.out.2.2.1, HF.out.2.2.2.1, HNL.out, HNB.out, HF.out.2.2.2.2.1, HF.out.2.2.2.2.2⟩
          case measure => simp [intOf]; omega
        · have P11 := Lib.hid (HM4.out.row.alloc (.cells #[.int .i64 (↑j + 1), .int .i64 v, .int .i64 o, .int .i64 x, .int .i64 y] 34))
          have cX := cell_of_block HM4.out.ask
          have hsW5 : w.heap.size + 2 ≤ w4.heap.size := by have := lt_of_block HM4.out.ask; omega
          go_wp2_with (at_builtin; refine wpList_append_row rfl _ _ rfl (rs.length + 1) eltReq rfl rfl P11.out (rowsAt_req _ ⟨(↑j + 1), v, o, x, y⟩ _) rfl rfl rfl (by simp only [maxLen]; omega) (by omega) (by simp <;> omega) ?_)
          intro a5 cap5 w5 q5
          clear cX
          have hblk5 : ∀ g', rowBlk a' cap' = some g' → w.heap.size + 2 ≤ g' := fun g' hg' => (HM4.out.row.blk hg').1
          have hsW : w.heap.size + 2 ≤ w4.heap.size := by have := lt_of_block HM4.out.ask; omega
          have hb5 : Below (w.heap.size + 2) w4 w5 := Below.grown ((Below.refl _ _).alloc hsW _) q5.grown (by simp <;> omega) hblk5
          have hgood5 : (rs ++ [(⟨(↑j + 1), v, o, x, y⟩ : Rq)]).all good = true := by
            rw [List.all_append, HG.out, Bool.true_and]
            simp only [List.all_cons, List.all_nil, Bool.and_true]
            exact good_of_ok (ok_num HOK.out (by omega) (by omega))
          have HF := Lib.hid (And.intro hgood5 (And.intro q5.row (And.intro ((HM4.out.rdr.below (hb5.mono (by omega))).mono (show _ ≤ P + 1 + 7 * (rs.length + 1) by omega)) (And.intro (show w.grownBy w5 (some g) from ⟨hb5.os.trans HM4.out.grown.os, hb5.tape.trans HM4.out.grown.tape, hb5.output.trans HM4.out.grown.output, Nat.le_trans HM4.out.grown.size hb5.size, fun i hi hne => (hb5.block i (by omega)).trans (HM4.out.grown.block i hi hne)⟩) (And.intro ((hb5.block _ (by omega)).trans HM4.out.num) (Nat.le_trans hsW hb5.size))))))
          clear hblk5 hsW hb5 hgood5 q5 P11
          go_wp2_with fail
          go_roundw
          case rel => exact ⟨rs ++ [⟨(↑j + 1), v, o, x, y⟩], a5, cap5, m - 1, ns, by go_num, by rw [List.length_append]; simp; omega, by simp, HF.out.1, HF.out.2.1, by rw [List.length_append]; exact HF.out.2.2.1, HF.out.2.2.2.1, HNL.out, HNB.out, HF.out.2.2.2.2.1, HF.out.2.2.2.2.2⟩
          case measure => simp [intOf]; omega
end Go.Proofs.Ytofedboeggdkaaa

/-! Contract of DrawGameFold: some asks, in a list of their own; no condition but a code of bytes. -/
namespace Go.Proofs.Ytofedboeggdkaaa
open Go.RowKit Go.Joins

/-- Some asks, at most so many, in a list of their own. -/
def AsksOwn (most : Nat) (w : World) (e : Ending) (w' : World) : Prop :=
  ∃ (rs : List Rq) (a' : Option Addr) (cap' : Nat), e = .returned (.slice a' rs.length cap') ∧ rs.length ≤ most ∧ IsSl w' (.slice a' rs.length cap') 5 Rq.cs rs ∧ Below w.heap.size w w'

set_option maxRecDepth 100000 in
set_option maxHeartbeats 4000000 in
theorem DrawGameFold_c (v : Value) (z : Bts) (w : World) (hz : IsBytes w v z) :
    Calls Try.prog 36 #[v] w (AsksOwn 41 w) := by
  have HZ := Lib.hid hz
  clear hz
  go_enter Try.func36, Try.ntmps36
  go_wp2_with fail
  refine (l20Open_c v z _ HZ.out).mono ?_
  rintro e w1 ⟨g, rfl, hg, r1, k1⟩
  have hl1 := r1.lt
  go_wp2_with fail
  refine (l20Reqs_c w1 g 0 40 r1 (by omega) (by omega)).mono ?_
  rintro e w2 ⟨rs, a', cap', rfl, hlen, hgood, hrow, r2, k2⟩
  have K2 := Lib.hid (bel_grown k1 k2 hg)
  have HROW := Lib.hid hrow
  have hs2 := k2.size
  clear hrow k1 k2 hgood
  go_wp2_with fail
  refine (pick_c w2 g _ 10 r2 (by omega) (by omega)).mono ?_
  rintro e w3 ⟨p, rfl, -, -, -, r3, k3⟩
  have hs3 := k3.size
  have K3 := Lib.hid (bel_grown K2.out k3 hg)
  have HROW3 := Lib.hid (HROW.out.kept k3 (fun g' hg' => by have := (HROW.out.blk hg').1; intro e; injection e; omega))
  clear k3 K2 HROW
  by_cases hp : p = 0
  · subst hp
    go_wp2_with fail
    refine (l20AnyReq_c w3 g _ r3 (by omega)).mono ?_
    rintro e w4 ⟨⟨c, n, o, x, y⟩, rfl, r4, k4⟩
    have hs4 := k4.size
    have K4 := Lib.hid (bel_grown K3.out k4 hg)
    have HROW4 := Lib.hid (HROW3.out.kept k4 (fun g' hg' => by have := (HROW3.out.blk hg').1; intro e; injection e; omega))
    clear k4 K3 HROW3
    have P11 := Lib.hid (HROW4.out.alloc (.cells #[.int .i64 c, .int .i64 n, .int .i64 o, .int .i64 x, .int .i64 y] 34))
    go_wp2_with (at_builtin; refine wpList_append_row rfl _ _ rfl (rs.length + 1) eltReq rfl rfl P11.out (rowsAt_req _ ⟨c, n, o, x, y⟩ _) rfl rfl rfl (by simp only [maxLen]; omega) (by omega) (by simp <;> omega) ?_)
    intro a5 cap5 w5 q5
    have hblk5 : ∀ g', rowBlk a' cap' = some g' → w.heap.size ≤ g' := fun g' hg' => by have := (HROW4.out.blk hg').1; have := K4.out.size; omega
    have hb5 : Below w.heap.size w4 w5 := Below.grown ((Below.refl _ _).alloc K4.out.size _) q5.grown (by have := K4.out.size; simp <;> omega) hblk5
    have KB := K4.out.trans hb5
    have HS := Lib.hid (q5.row.sl (fun _ => rfl))
    clear hblk5 hb5 q5 P11 HROW4
    go_wp2_with fail
    go_ret
    exact ⟨rs ++ [⟨c, n, o, x, y⟩], a5, cap5, by simp, by simp; omega, by simpa using HS.out, KB⟩
  · go_wp2_with fail
    go_ret
    exact ⟨rs, a', cap', rfl, by omega, HROW3.out.sl (fun _ => rfl), K3.out⟩
end Go.Proofs.Ytofedboeggdkaaa
