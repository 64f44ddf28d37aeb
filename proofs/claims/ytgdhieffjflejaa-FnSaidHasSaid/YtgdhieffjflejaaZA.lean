/- The checksum as a function on lists of bytes, and that one turned byte turns it: plain arithmetic, no program; no condition. | Contracts of the reader of drawn bytes (l20Open, pick, one, of): whatever it reads, a number in range; condition: fewer than 2^40 reads. | Contracts of the drawn requests; condition: fewer than 2^40 reads. | Contracts of l20Open, one, l20AnyReq; condition: fewer than 2^40 reads. | Drawn claims and votes (l20Claim, l20Claims, l20Votes): few, of small places; condition: fewer than 2^40 reads. | A drawn letter (l20Msg): its lists are short, in blocks of their own; condition: fewer than 2^40 reads. -/
import Derived.WalkKit
import Derived.Test.YtgdhieffjflejaaOpen
import Derived.Deep.QuietTactic
import Derived.BigQuiet
import Derived.LoopTactic
import Derived.Test.YtgdhieffjflejaaRob
import Derived.Test.YtgdhieffjflejaaRobX
set_option linter.unusedSimpArgs false
set_option linter.unusedVariables false
/-! CrcLaw -/
namespace Go.Proofs.Ytgdhieffjflejaa
open Go.RowKit

def crcStep (c : Nat) : Nat := if c % 2 = 1 then (c / 2) ^^^ 3988292384 else c / 2
def crcRun : Nat → Nat → Nat
 | 0, c => c
 | n + 1, c => crcStep (crcRun n c)
def crcFold (l : List UInt8) (c : Nat) : Nat := l.foldl (fun c b => crcRun 8 (c ^^^ b.toNat)) c
def crcOf (l : List UInt8) : Nat := crcFold l 4294967295 ^^^ 4294967295

theorem crcStep_two (c : Nat) : (c % 2 = 1 ∧ crcStep c = (c / 2) ^^^ 3988292384) ∨ (c % 2 = 0 ∧ crcStep c = c / 2) := by
 unfold crcStep
 split
 ·
  exact .inl ⟨‹_›, rfl⟩
 ·
  exact .inr ⟨by omega, rfl⟩
theorem crcStep_lt {c : Nat} (h : c < 2 ^ 32) : crcStep c < 2 ^ 32 := by
 unfold crcStep
 split
 ·
  exact Nat.xor_lt_two_pow (by omega) (by decide)
 ·
  omega
theorem crcRun_lt {n c : Nat} (h : c < 2 ^ 32) : crcRun n c < 2 ^ 32 := by
 induction n with
 | zero => exact h
 | succ n ih => exact crcStep_lt ih
theorem byte_lt {c : Nat} (b : UInt8) (h : c < 2 ^ 32) : c ^^^ b.toNat < 2 ^ 32 := Nat.xor_lt_two_pow h (by have := b.toNat_lt; omega)
theorem crcFold_lt (l : List UInt8) {c : Nat} (h : c < 2 ^ 32) : crcFold l c < 2 ^ 32 := by
 induction l generalizing c with
 | nil => exact h
 | cons b l ih => exact ih (crcRun_lt (byte_lt b h))
theorem crcFold_snoc (l : List UInt8) (b : UInt8) (c : Nat) : crcFold (l ++ [b]) c = crcRun 8 (crcFold l c ^^^ b.toNat) := by
 unfold crcFold; rw [List.foldl_append]; rfl
theorem crcOf_lt (l : List UInt8) : crcOf l < 2 ^ 32 := Nat.xor_lt_two_pow (crcFold_lt l (by decide)) (by decide)

theorem xor_cancel {a b p : Nat} (h : a ^^^ p = b ^^^ p) : a = b := by
 have := congrArg (· ^^^ p) h
 simpa [Nat.xor_assoc] using this
theorem xor_cancel_left {a b p : Nat} (h : p ^^^ a = p ^^^ b) : a = b := by
 rw [Nat.xor_comm p a, Nat.xor_comm p b] at h; exact xor_cancel h
theorem top_parts {a b : Nat} (ha : a < 2 ^ 31) (hb : b < 2 ^ 31) : a ^^^ 3988292384 ≠ b := by
 intro h
 have := congrArg (fun n => n.testBit 31) h
 simp only [Nat.testBit_xor] at this
 rw [Nat.testBit_lt_two_pow ha, Nat.testBit_lt_two_pow hb] at this
 revert this
 decide
theorem crcStep_inj {c d : Nat} (hc : c < 2 ^ 32) (hd : d < 2 ^ 32) (h : crcStep c = crcStep d) : c = d := by
 unfold crcStep at h
 split at h <;> split at h
 ·
  have := xor_cancel h; omega
 ·
  exact absurd h (top_parts (by omega) (by omega))
 ·
  exact absurd h.symm (top_parts (by omega) (by omega))
 ·
  omega
theorem crcRun_inj {n c d : Nat} (hc : c < 2 ^ 32) (hd : d < 2 ^ 32) (h : crcRun n c = crcRun n d) : c = d := by
 induction n with
 | zero => exact h
 | succ n ih => exact ih (crcStep_inj (crcRun_lt hc) (crcRun_lt hd) h)
theorem crcFold_inj (l : List UInt8) {c d : Nat} (hc : c < 2 ^ 32) (hd : d < 2 ^ 32) (h : crcFold l c = crcFold l d) : c = d := by
 induction l generalizing c d with
 | nil => exact h
 | cons b l ih => exact xor_cancel (crcRun_inj (byte_lt b hc) (byte_lt b hd) (ih (crcRun_lt (byte_lt b hc)) (crcRun_lt (byte_lt b hd)) h))
/-- One byte other: another sum. -/
theorem crcOf_flip (p q : List UInt8) {b b' : UInt8} (hne : b ≠ b') : crcOf (p ++ b :: q) ≠ crcOf (p ++ b' :: q) := by
 intro h
 have h1 := xor_cancel h
 have e : ∀ x : UInt8, crcFold (p ++ x :: q) 4294967295 = crcFold q (crcRun 8 (crcFold p 4294967295 ^^^ x.toNat)) := fun x => by
  unfold crcFold; rw [List.foldl_append]; rfl
 have hp := crcFold_lt p (c := 4294967295) (by decide)
 rw [e, e] at h1
 have h2 := crcFold_inj q (crcRun_lt (byte_lt b hp)) (crcRun_lt (byte_lt b' hp)) h1
 have h3 := crcRun_inj (byte_lt b hp) (byte_lt b' hp) h2
 exact hne (UInt8.toNat_inj.1 (xor_cancel_left h3))

theorem i64_xor_nat (a b : Nat) (ha : a < 9223372036854775808) (hb : b < 9223372036854775808) : bits .xor .i64 (a : Int) (b : Int) = ((a ^^^ b : Nat) : Int) := by
 have hx : a ^^^ b < 2 ^ 63 := Nat.xor_lt_two_pow (by omega) (by omega)
 show IntKind.i64.wrap ((BitVec.ofInt 64 (a : Int) ^^^ BitVec.ofInt 64 (b : Int)).toNat : Int) = _
 rw [BitVec.toNat_xor, ofInt_u64 a (by omega), ofInt_u64 b (by omega)]
 simp only [IntKind.wrap, IntKind.bits, IntKind.signed]
 simp
 omega
end Go.Proofs.Ytgdhieffjflejaa

/-! Draw -/
namespace Go.Proofs.Ytgdhieffjflejaa
open Go.RowKit Go.Joins

/-- The reader in block g: its bytes, below g, can be read; it has read at most P times. -/
def Rdr (w : World) (g P : Nat) : Prop :=
 ∃ (a : Option Addr) (len cap p : Nat), w.heap[g]? = some (.cells #[.slice a len cap, .int .i64 p] 94 (0, 0)) ∧ p ≤ P ∧ len ≤ 2000 ∧ len ≤ cap ∧ cap ≤ maxLen ∧
  ∀ i, i < len → ∃ (b off : Nat) (x : Int), a = some ⟨b, off, none⟩ ∧ b < g ∧ 0 ≤ x ∧ x ≤ 255 ∧ w.cell? ⟨b, off + i, none⟩ = some (.int .u8 x)

/-- A number in range; the reader has moved on by one; nothing else that was there has turned. -/
def Picked (w : World) (g P : Nat) (n : Int) (e : Ending) (w' : World) : Prop :=
 ∃ v : Int, e = .returned (.int .i64 v) ∧ 0 ≤ v ∧ (1 ≤ n → v < n) ∧ (n < 1 → v = 0) ∧ Rdr w' g (P + 1) ∧ w.grownBy w' (some g)

theorem grown_refl (w : World) (row : Option Nat) : w.grownBy w row := ⟨rfl, rfl, rfl, Nat.le_refl _, fun _ _ _ => rfl⟩
theorem grown_trans {a b c : World} {row : Option Nat} (h : a.grownBy b row) (k : b.grownBy c row) : a.grownBy c row :=
 ⟨k.os.trans h.os, k.tape.trans h.tape, k.output.trans h.output, Nat.le_trans h.size k.size, fun i hi hne => (k.block i (Nat.lt_of_lt_of_le hi h.size) hne).trans (h.block i hi hne)⟩
theorem grown_of_below {a w : World} (h : Below a.heap.size a w) (row : Option Nat) : a.grownBy w row := ⟨h.os, h.tape, h.output, h.size, fun i hi _ => h.block i hi⟩
theorem grown_drewN {a w : World} {row : Option Nat} (h : a.grownBy w row) (n : Nat) : a.grownBy (w.drewN n) row := ⟨h.os, h.tape, h.output, h.size, h.block⟩
theorem grown_setCell {a w : World} {g : Nat} (h : a.grownBy w (some g)) {p : Addr} (hp : p.block = g ∨ a.heap.size ≤ p.block) (u : Value) : a.grownBy (w.setCell p u) (some g) :=
 ⟨h.os, h.tape, h.output, by simpa [World.setCell] using h.size, fun i hi hne => (Below.heap_setCell w p u i (by
  rintro rfl
  rcases hp with hp | hp
  ·
   exact hne (by rw [hp])
  ·
   omega)).trans (h.block i hi hne)⟩

theorem gcell {W w1 : World} {g : Nat} (h : W.grownBy w1 (some g)) :
  (∀ b o, b < W.heap.size → b ≠ g → w1.cell? ⟨b, o, none⟩ = W.cell? ⟨b, o, none⟩) ∧ (∀ b o, b < W.heap.size → b ≠ g → w1.frozen? ⟨b, o, none⟩ = W.frozen? ⟨b, o, none⟩) :=
 ⟨fun b o hb hne => World.cell?_of_block (w := W) (a := ⟨b, o, none⟩) (h.block b hb (fun e => hne (by injection e))), fun b o hb hne => World.frozen?_of_block (w := W) (a := ⟨b, o, none⟩) (h.block b hb (fun e => hne (by injection e)))⟩
theorem Rdr.below {w w' : World} {g P : Nat} (h : Rdr w g P) (k : Below (g + 1) w w') : Rdr w' g P := by
 obtain ⟨a, len, cap, p, hg, hp, hl, hlc, hm, hc⟩ := h
 refine ⟨a, len, cap, p, by rw [k.block g (by omega)]; exact hg, hp, hl, hlc, hm, fun i hi => ?_⟩
 obtain ⟨b, off, x, h1, h2, h3, h4, h5⟩ := hc i hi
 exact ⟨b, off, x, h1, h2, h3, h4, by rw [k.cell (p := ⟨b, off + i, none⟩) (by show b < g + 1; omega)]; exact h5⟩
theorem Rdr.mono {w : World} {g P Q : Nat} (h : Rdr w g P) (k : P ≤ Q) : Rdr w g Q := by
 obtain ⟨a, len, cap, p, hg, hp, r⟩ := h
 exact ⟨a, len, cap, p, hg, Nat.le_trans hp k, r⟩
theorem Rdr.lt {w : World} {g P : Nat} (h : Rdr w g P) : g < w.heap.size := by
 obtain ⟨a, len, cap, p, hg, _⟩ := h
 exact lt_of_block hg

theorem grown_alloc {a w : World} {row : Option Nat} (h : a.grownBy w row) (o : Obj) : a.grownBy (w.alloc o) row :=
 ⟨h.os, h.tape, h.output, Nat.le_trans h.size (by simp), fun i hi hne => (Below.heap_alloc w o i (Nat.lt_of_lt_of_le hi h.size)).trans (h.block i hi hne)⟩
theorem grown_drew {a w : World} {row : Option Nat} (h : a.grownBy w row) : a.grownBy w.drew row := ⟨h.os, h.tape, h.output, h.size, h.block⟩

theorem bel_grown {a w w' : World} {g : Nat} (h : Below a.heap.size a w) (k : w.grownBy w' (some g)) (hg : a.heap.size ≤ g) : Below a.heap.size a w' :=
 h.grown k h.size (fun b e => by injection e with e; omega)

/-- A block that was there, other than g, is there still. -/
theorem carry {W w1 : World} {g b : Nat} {o : Obj} (k : W.grownBy w1 (some g)) (hne : b ≠ g) (h : W.heap[b]? = some o) : w1.heap[b]? = some o :=
 (k.block b (lt_of_block h) (fun e => hne (by injection e))).trans h

/-- The store of the new count. -/
theorem Rdr.step {w : World} {a : Option Addr} {g P len cap p : Nat} (hg : w.heap[g]? = some (.cells #[.slice a len cap, .int .i64 p] 94 (0, 0))) (hp : p ≤ P) (hl : len ≤ 2000) (hlc : len ≤ cap) (hm : cap ≤ maxLen)
  (hc : ∀ i, i < len → ∃ (b off : Nat) (x : Int), a = some ⟨b, off, none⟩ ∧ b < g ∧ 0 ≤ x ∧ x ≤ 255 ∧ w.cell? ⟨b, off + i, none⟩ = some (.int .u8 x)) (n : Nat) :
  Rdr ((w.setCell ⟨g, 1, none⟩ (.int .i64 ((p : Int) + 1))).drewN n) g (P + 1) ∧ w.grownBy ((w.setCell ⟨g, 1, none⟩ (.int .i64 ((p : Int) + 1))).drewN n) (some g) := by
 refine ⟨⟨a, len, cap, p + 1, ?_, by omega, hl, hlc, hm, fun i hi => ?_⟩, grown_drewN (grown_setCell (grown_refl w _) (.inl rfl) _) n⟩
 ·
  have := block_setCell (i := 1) hg (.int .i64 ((p : Int) + 1))
  exact this
 ·
  obtain ⟨b, off, x, h1, h2, h3, h4, h5⟩ := hc i hi
  refine ⟨b, off, x, h1, h2, h3, h4, ?_⟩
  have := Below.heap_setCell w ⟨g, 1, none⟩ (.int .i64 ((p : Int) + 1)) b (by show b ≠ g; omega)
  show ((w.setCell ⟨g, 1, none⟩ (.int .i64 ((p : Int) + 1))).drewN n).cell? ⟨b, off + i, none⟩ = _
  rw [← h5]
  exact World.cell?_of_block (w := w) (w' := (w.setCell ⟨g, 1, none⟩ (.int .i64 ((p : Int) + 1))).drewN n) (a := ⟨b, off + i, none⟩) this

set_option maxRecDepth 100000 in
set_option maxHeartbeats 4000000 in
theorem pick_c (w : World) (g P : Nat) (n : Int) (hr : Rdr w g P) (hP : P ≤ 1099511627776) (hn : n ≤ 4611686018427387904) :
  Calls Try.prog 40 #[.pointer (some ⟨g, 0, none⟩), .int .i64 n] w (Picked w g P n) := by
 obtain ⟨a, len, cap, p, hg, hp, hl, hlc, hm, hc⟩ := hr
 have HS := Lib.hid (Rdr.step (P := P) hg hp hl hlc hm hc)
 have c0 : w.cell? ⟨g, 0, none⟩ = some (.slice a len cap) := by rw [cell_of_block hg]; rfl
 have c1 : w.cell? ⟨g, 1, none⟩ = some (.int .i64 p) := by rw [cell_of_block hg]; rfl
 have f1 : w.frozen? ⟨g, 1, none⟩ = false := unfrozen_of_block hg 1
 have HC := Lib.hid hc
 have HG := Lib.hid hg
 clear hc hg
 unfold maxLen at hm
 by_cases hn1 : n < 1
 ·
  go_enter Try.func40, Try.ntmps40
  go_wp2_with fail
  go_ret
  exact ⟨0, rfl, Int.le_refl _, fun h => by omega, fun _ => rfl, (HS.out 0).1, (HS.out 0).2⟩
 ·
  by_cases hl0 : len = 0
  ·
   subst hl0
   go_enter Try.func40, Try.ntmps40
   go_wp2_with fail
   go_ret
   exact ⟨0, rfl, Int.le_refl _, fun h => by omega, fun _ => rfl, (HS.out 0).1, (HS.out 0).2⟩
  ·
   have hll : ((len : Int) == 0) = false := by simp; omega
   have hnz : 1 ≤ n := by omega
   by_cases hk : p < len
   ·
    obtain ⟨b, off, x, rfl, hbg, hx0, hx1, hcell⟩ := HC.out p hk
    have hne : ¬ b = g := by omega
    have hne' : ¬ g = b := by omega
    go_enter Try.func40, Try.ntmps40
    go_wp2_with fail
    go_ret
    exact ⟨x % n, rfl, Int.emod_nonneg _ (by omega), fun _ => Int.emod_lt_of_pos _ (by omega), fun h => by omega, (HS.out 0).1, (HS.out 0).2⟩
   ·
    obtain ⟨b, off, x, rfl, hbg, hx0, hx1, hcell⟩ := HC.out (p % len) (Nat.mod_lt _ (by omega))
    obtain ⟨b', off', y, hbb, hbg', hy0, hy1, hcell'⟩ := HC.out ((p * 7 + 3) % len) (Nat.mod_lt _ (by omega))
    simp only [Option.some.injEq, Addr.mk.injEq, and_true] at hbb
    obtain ⟨rfl, rfl⟩ := hbb
    have hne : ¬ b = g := by omega
    have hne' : ¬ g = b := by omega
    have L1 : (1 : Int) ≤ len := by omega
    have L2 : (0 : Int) ≤ p := by omega
    have L3 : (p : Int) ≤ 1099511627776 := by omega
    have M1 : (p : Int).tmod len = (p : Int) % len := Int.tmod_eq_emod_of_nonneg L2
    have M2 : ((p : Int) * 7 + 3).tmod len = ((p : Int) * 7 + 3) % len := Int.tmod_eq_emod_of_nonneg (by omega)
    have D1 : (p : Int).tdiv len = (p : Int) / len := Int.tdiv_eq_ediv_of_nonneg L2
    have B1 : 0 ≤ (p : Int) % len := Int.emod_nonneg _ (by omega)
    have B2 : (p : Int) % len < len := Int.emod_lt_of_pos _ (by omega)
    have B3 : 0 ≤ ((p : Int) * 7 + 3) % len := Int.emod_nonneg _ (by omega)
    have B4 : ((p : Int) * 7 + 3) % len < len := Int.emod_lt_of_pos _ (by omega)
    have B5 : 0 ≤ (p : Int) / len := Int.ediv_nonneg L2 (by omega)
    have B6 : (p : Int) / len ≤ p := Int.ediv_le_self _ L2
    have N1 : ((p : Int) % len).toNat = p % len := by rw [← Int.natCast_emod]; rfl
    have N2 : (((p : Int) * 7 + 3) % len).toNat = (p * 7 + 3) % len := by
     have : ((p : Int) * 7 + 3) % len = (((p * 7 + 3) % len : Nat) : Int) := by rw [Int.natCast_emod]; rfl
     rw [this]; rfl
    have W1 : IntKind.i64.wrap (x * 131) = x * 131 := IntWalk.i64_in _ ⟨by omega, by omega⟩
    have W2 : IntKind.i64.wrap ((p : Int) * 7) = (p : Int) * 7 := IntWalk.i64_in _ ⟨by omega, by omega⟩
    have W3 : IntKind.i64.wrap ((p : Int) * 7 + 3) = (p : Int) * 7 + 3 := IntWalk.i64_in _ ⟨by omega, by omega⟩
    have W4 : IntKind.i64.wrap (y * 1117) = y * 1117 := IntWalk.i64_in _ ⟨by omega, by omega⟩
    have W5 : IntKind.i64.wrap (x * 131 + y * 1117) = x * 131 + y * 1117 := IntWalk.i64_in _ ⟨by omega, by omega⟩
    have W6 : IntKind.i64.wrap ((p : Int) * 29) = (p : Int) * 29 := IntWalk.i64_in _ ⟨by omega, by omega⟩
    have W7 : IntKind.i64.wrap (x * 131 + y * 1117 + (p : Int) * 29) = x * 131 + y * 1117 + (p : Int) * 29 := IntWalk.i64_in _ ⟨by omega, by omega⟩
    have W8 : IntKind.i64.wrap ((p : Int) / len * 53) = (p : Int) / len * 53 := IntWalk.i64_in _ ⟨by omega, by omega⟩
    have W9 : IntKind.i64.wrap (x * 131 + y * 1117 + (p : Int) * 29 + (p : Int) / len * 53) = x * 131 + y * 1117 + (p : Int) * 29 + (p : Int) / len * 53 := IntWalk.i64_in _ ⟨by omega, by omega⟩
    have Q1 : IntKind.i64.wrap ((p : Int) / len) = (p : Int) / len := IntWalk.i64_in _ ⟨by omega, by omega⟩
    go_enter Try.func40, Try.ntmps40
    go_wp2_with fail
    go_quiet (fail)
    obtain ⟨t, ht⟩ : ∃ t : Nat, x * 131 + y * 1117 + (p : Int) * 29 + (p : Int) / len * 53 = (t : Int) := ⟨_, (Int.toNat_of_nonneg (by omega)).symm⟩
    have ht1 : t < 4611686018427387904 := by omega
    rw [ht]
    clear W1 W2 W3 W4 W5 W6 W7 W8 W9 Q1 M1 M2 D1 N1 N2 ht B1 B2 B3 B4 B5 B6 hcell hcell'
    have HX : bits .xor .i64 (t : Int) ((t : Int) / 64) = ((t ^^^ t / 64 : Nat) : Int) := i64_xor_nat t (t / 64) (by omega) (by omega)
    generalize t ^^^ t / 64 = s at *
    go_wp2_with fail
    go_ret
    exact ⟨(s : Int) % n, rfl, Int.emod_nonneg _ (by omega), fun _ => Int.emod_lt_of_pos _ (by omega), fun h => by omega, (HS.out nq).1, (HS.out nq).2⟩
end Go.Proofs.Ytgdhieffjflejaa

/-! DrawReq -/
namespace Go.Proofs.Ytgdhieffjflejaa
open Go.RowKit Go.Joins

/-- A valid request of a client from 1 to 3; the reader has moved on; nothing else has turned. -/
def ReqDrawn (w : World) (g P : Nat) (e : Ending) (w' : World) : Prop :=
 ∃ r : Rq, e = .returned (.agg #[.int .i64 r.c, .int .i64 r.n, .int .i64 r.o, .int .i64 r.x, .int .i64 r.y]) ∧ okB r.c r.n r.o r.x r.y = true ∧ r.c ≤ 3 ∧ Rdr w' g (P + 5) ∧ w.grownBy w' (some g)


set_option maxRecDepth 100000 in
set_option maxHeartbeats 2000000 in
theorem l20Req_c (w : World) (g P : Nat) (hr : Rdr w g P) (hP : P ≤ 1099511627000) :
  Calls Try.prog 79 #[.pointer (some ⟨g, 0, none⟩)] w (ReqDrawn w g P) := by
 have hlt := hr.lt
 go_enter Try.func79, Try.ntmps79
 go_wp2_with fail
 refine (pick_c _ g P 3 (hr.below (by repeat' (first | with_reducible exact Below.refl _ _ | with_reducible assumption | with_reducible refine Below.alloc ?_ ?_ _ | with_reducible refine Below.drew ?_ | with_reducible refine Below.setCell ?_ ?_ _ | omega | (simp; omega) | (simp; done)))) (by omega) (by omega)).mono ?_
 rintro e w1 ⟨v1, rfl, a1, b1, -, r1, k1⟩
 replace b1 := b1 (by omega)
 go_wp2_with fail
 refine (pick_c _ g (P + 1) 6 r1 (by omega) (by omega)).mono ?_
 rintro e w2 ⟨v2, rfl, a2, b2, -, r2, k2⟩
 replace b2 := b2 (by omega)
 go_wp2_with fail
 refine (pick_c _ g (P + 1 + 1) 5 r2 (by omega) (by omega)).mono ?_
 rintro e w3 ⟨v3, rfl, a3, b3, -, r3, k3⟩
 replace b3 := b3 (by omega)
 have k := grown_trans (grown_trans k1 k2) k3
 have hsz := k.size
 have hlt3 := r3.lt
 rw [World.size_alloc] at hsz
 have hne : w.heap.size ≠ g := by omega
 have hne3 : w3.heap.size ≠ g := by omega
 have hlt4 : w.heap.size < w3.heap.size := by omega
 have hlt5 : w.heap.size ≠ w3.heap.size := by omega
 have HR := Lib.hid (carry k hne (heap_alloc_new w _))
 have hc := cell_of_block HR.out
 have hf := unfrozen_of_block HR.out
 have K : w.grownBy w3 (some g) := grown_trans (grown_of_below (by repeat' (first | with_reducible exact Below.refl _ _ | with_reducible assumption | with_reducible refine Below.alloc ?_ ?_ _ | with_reducible refine Below.drew ?_ | with_reducible refine Below.setCell ?_ ?_ _ | omega | (simp; omega) | (simp; done))) _) k
 clear k1 k2 k3 r1 r2 k
 have h5 : v3 = 0 ∨ v3 = 1 ∨ v3 = 2 ∨ v3 = 3 ∨ v3 = 4 := by omega
 rcases h5 with rfl | rfl | rfl | rfl | rfl
 ·
  go_wp2_with fail
  refine bodyPost_ret (v := .agg #[.int .i64 (1 + v1), .int .i64 (1 + v2), .int .i64 1, .int .i64 0, .int .i64 0]) (by simp [results, Try.results79, go_sem, hc, hlt4]) rfl ?_
  exact ⟨⟨1 + v1, 1 + v2, 1, 0, 0⟩, rfl, by simp [okB, inB]; omega, by show 1 + v1 ≤ 3; omega, (r3.below (by repeat' (first | with_reducible exact Below.refl _ _ | with_reducible assumption | with_reducible refine Below.alloc ?_ ?_ _ | with_reducible refine Below.drew ?_ | with_reducible refine Below.setCell ?_ ?_ _ | omega | (simp; omega) | (simp; done)))).mono (by omega), by repeat (first | with_reducible exact K | with_reducible refine grown_alloc ?_ _ | with_reducible refine grown_setCell ?_ (.inr (Nat.le_refl _)) _)⟩
 ·
  go_wp2_with fail
  refine (pick_c _ g (P + 1 + 1 + 1) 3 (r3.below (by repeat' (first | with_reducible exact Below.refl _ _ | with_reducible assumption | with_reducible refine Below.alloc ?_ ?_ _ | with_reducible refine Below.drew ?_ | with_reducible refine Below.setCell ?_ ?_ _ | omega | (simp; omega) | (simp; done)))) (by omega) (by omega)).mono ?_
  rintro e w4 ⟨v4, rfl, a4, b4, -, r4, k4⟩
  replace b4 := b4 (by omega)
  have hs4 := k4.size
  rw [World.size_alloc] at hs4
  have hl4 : w3.heap.size < w4.heap.size := by omega
  have hX := carry k4 hne3 (heap_alloc_new w3 _)
  have hcX := cell_of_block hX
  have hfX := unfrozen_of_block hX
  have HX := Lib.hid hX
  have HR4 := Lib.hid (carry k4 hne (by rw [Below.heap_alloc _ _ _ hlt4]; exact HR.out))
  have K4 : w.grownBy w4 (some g) := grown_trans (grown_alloc K _) k4
  clear hc hf hX k4 r3
  go_wp2_with fail
  refine (pick_c _ g (P + 1 + 1 + 1 + 1) 3 (r4.below (by repeat' (first | with_reducible exact Below.refl _ _ | with_reducible assumption | with_reducible refine Below.alloc ?_ ?_ _ | with_reducible refine Below.drew ?_ | with_reducible refine Below.setCell ?_ ?_ _ | omega | (simp; omega) | (simp; done)))) (by omega) (by omega)).mono ?_
  rintro e w5 ⟨v5, rfl, a5, b5, -, r5, k5⟩
  replace b5 := b5 (by omega)
  have hs5 := k5.size
  rw [World.size_setCell] at hs5
  have hX5 := carry k5 hne3 (block_setCell (i := 3) HX.out _)
  have HR5 := carry k5 hne (by rw [Below.heap_setCell _ _ _ _ (by simp; omega)]; exact HR4.out)
  have hc := cell_of_block HR5
  have hf := unfrozen_of_block HR5
  have hcX5 := cell_of_block hX5
  have hfX5 := unfrozen_of_block hX5
  have K5 : w.grownBy w5 (some g) := grown_trans (by repeat (first | with_reducible exact K4 | with_reducible refine grown_setCell ?_ (.inr (by simp; omega)) _)) k5
  clear hcX hfX hX5 HR5 k5 r4
  go_wp2_with fail
  refine bodyPost_ret (v := .agg #[.int .i64 (1 + v1), .int .i64 (1 + v2), .int .i64 2, .int .i64 (v4 - 1), .int .i64 (v5 - 1)]) (by simp [results, Try.results79, go_sem, hc]) rfl ?_
  exact ⟨⟨1 + v1, 1 + v2, 2, v4 - 1, v5 - 1⟩, rfl, by simp [okB, inB]; omega, by show 1 + v1 ≤ 3; omega, (r5.below (by repeat' (first | with_reducible exact Below.refl _ _ | with_reducible assumption | with_reducible refine Below.alloc ?_ ?_ _ | with_reducible refine Below.drew ?_ | with_reducible refine Below.setCell ?_ ?_ _ | omega | (simp; omega) | (simp; done)))).mono (by omega), by repeat (first | with_reducible exact K5 | with_reducible refine grown_alloc ?_ _ | with_reducible refine grown_setCell ?_ (.inr (by simp; try omega)) _)⟩
 ·
  go_wp2_with fail
  refine bodyPost_ret (v := .agg #[.int .i64 (1 + v1), .int .i64 (1 + v2), .int .i64 3, .int .i64 0, .int .i64 0]) (by simp [results, Try.results79, go_sem, hc, hlt4]) rfl ?_
  exact ⟨⟨1 + v1, 1 + v2, 3, 0, 0⟩, rfl, by simp [okB, inB]; omega, by show 1 + v1 ≤ 3; omega, (r3.below (by repeat' (first | with_reducible exact Below.refl _ _ | with_reducible assumption | with_reducible refine Below.alloc ?_ ?_ _ | with_reducible refine Below.drew ?_ | with_reducible refine Below.setCell ?_ ?_ _ | omega | (simp; omega) | (simp; done)))).mono (by omega), by repeat (first | with_reducible exact K | with_reducible refine grown_alloc ?_ _ | with_reducible refine grown_setCell ?_ (.inr (Nat.le_refl _)) _)⟩
 ·
  go_wp2_with fail
  refine (pick_c _ g (P + 1 + 1 + 1) 3 (r3.below (by repeat' (first | with_reducible exact Below.refl _ _ | with_reducible assumption | with_reducible refine Below.alloc ?_ ?_ _ | with_reducible refine Below.drew ?_ | with_reducible refine Below.setCell ?_ ?_ _ | omega | (simp; omega) | (simp; done)))) (by omega) (by omega)).mono ?_
  rintro e w4 ⟨v4, rfl, a4, b4, -, r4, k4⟩
  replace b4 := b4 (by omega)
  have hs4 := k4.size
  rw [World.size_alloc] at hs4
  have hl4 : w3.heap.size < w4.heap.size := by omega
  have hX := carry k4 hne3 (heap_alloc_new w3 _)
  have hcX := cell_of_block hX
  have hfX := unfrozen_of_block hX
  have HR4 := carry k4 hne (by rw [Below.heap_alloc _ _ _ hlt4]; exact HR.out)
  have hc4 := cell_of_block HR4
  have hf4 := unfrozen_of_block HR4
  have K4 : w.grownBy w4 (some g) := grown_trans (grown_alloc K _) k4
  clear hc hf hX k4 r3 HR4
  go_wp2_with fail
  refine bodyPost_ret (v := .agg #[.int .i64 (1 + v1), .int .i64 (1 + v2), .int .i64 4, .int .i64 (1 + v4), .int .i64 0]) (by simp [results, Try.results79, go_sem, hc4]) rfl ?_
  exact ⟨⟨1 + v1, 1 + v2, 4, 1 + v4, 0⟩, rfl, by simp [okB, inB]; omega, by show 1 + v1 ≤ 3; omega, (r4.below (by repeat' (first | with_reducible exact Below.refl _ _ | with_reducible assumption | with_reducible refine Below.alloc ?_ ?_ _ | with_reducible refine Below.drew ?_ | with_reducible refine Below.setCell ?_ ?_ _ | omega | (simp; omega) | (simp; done)))).mono (by omega), by repeat (first | with_reducible exact K4 | with_reducible refine grown_alloc ?_ _ | with_reducible refine grown_setCell ?_ (.inr (by simp; try omega)) _)⟩
 ·
  go_wp2_with fail
  refine (pick_c _ g (P + 1 + 1 + 1) 3 (r3.below (by repeat' (first | with_reducible exact Below.refl _ _ | with_reducible assumption | with_reducible refine Below.alloc ?_ ?_ _ | with_reducible refine Below.drew ?_ | with_reducible refine Below.setCell ?_ ?_ _ | omega | (simp; omega) | (simp; done)))) (by omega) (by omega)).mono ?_
  rintro e w4 ⟨v4, rfl, a4, b4, -, r4, k4⟩
  replace b4 := b4 (by omega)
  have hs4 := k4.size
  rw [World.size_alloc] at hs4
  have hl4 : w3.heap.size < w4.heap.size := by omega
  have hX := carry k4 hne3 (heap_alloc_new w3 _)
  have hcX := cell_of_block hX
  have hfX := unfrozen_of_block hX
  have HX := Lib.hid hX
  have HR4 := Lib.hid (carry k4 hne (by rw [Below.heap_alloc _ _ _ hlt4]; exact HR.out))
  have K4 : w.grownBy w4 (some g) := grown_trans (grown_alloc K _) k4
  clear hc hf hX k4 r3
  go_wp2_with fail
  refine (pick_c _ g (P + 1 + 1 + 1 + 1) 3 (r4.below (by repeat' (first | with_reducible exact Below.refl _ _ | with_reducible assumption | with_reducible refine Below.alloc ?_ ?_ _ | with_reducible refine Below.drew ?_ | with_reducible refine Below.setCell ?_ ?_ _ | omega | (simp; omega) | (simp; done)))) (by omega) (by omega)).mono ?_
  rintro e w5 ⟨v5, rfl, a5, b5, -, r5, k5⟩
  replace b5 := b5 (by omega)
  have hs5 := k5.size
  rw [World.size_setCell] at hs5
  have hX5 := carry k5 hne3 (block_setCell (i := 3) HX.out _)
  have HR5 := carry k5 hne (by rw [Below.heap_setCell _ _ _ _ (by simp; omega)]; exact HR4.out)
  have hc := cell_of_block HR5
  have hf := unfrozen_of_block HR5
  have hcX5 := cell_of_block hX5
  have hfX5 := unfrozen_of_block hX5
  have K5 : w.grownBy w5 (some g) := grown_trans (by repeat (first | with_reducible exact K4 | with_reducible refine grown_setCell ?_ (.inr (by simp; omega)) _)) k5
  clear hcX hfX hX5 HR5 k5 r4
  go_wp2_with fail
  refine bodyPost_ret (v := .agg #[.int .i64 (1 + v1), .int .i64 (1 + v2), .int .i64 5, .int .i64 (1 + v4), .int .i64 (1 + v5)]) (by simp [results, Try.results79, go_sem, hc]) rfl ?_
  exact ⟨⟨1 + v1, 1 + v2, 5, 1 + v4, 1 + v5⟩, rfl, by simp [okB, inB]; omega, by show 1 + v1 ≤ 3; omega, (r5.below (by repeat' (first | with_reducible exact Below.refl _ _ | with_reducible assumption | with_reducible refine Below.alloc ?_ ?_ _ | with_reducible refine Below.drew ?_ | with_reducible refine Below.setCell ?_ ?_ _ | omega | (simp; omega) | (simp; done)))).mono (by omega), by repeat (first | with_reducible exact K5 | with_reducible refine grown_alloc ?_ _ | with_reducible refine grown_setCell ?_ (.inr (by simp; try omega)) _)⟩
end Go.Proofs.Ytgdhieffjflejaa

/-! Draw2 -/
namespace Go.Proofs.Ytgdhieffjflejaa
open Go.RowKit Go.Joins

/-- A fresh reader over the bytes that came in. -/
def Opened (w : World) (e : Ending) (w' : World) : Prop :=
 ∃ g : Nat, e = .returned (.pointer (some ⟨g, 0, none⟩)) ∧ w.heap.size ≤ g ∧ Rdr w' g 0 ∧ Below w.heap.size w w'

set_option maxHeartbeats 400000 in
theorem l20Open_c (v : Value) (z : Bts) (w : World) (hz : IsBytes w v z) :
  Calls Try.prog 38 #[v] w (Opened w) := by
 obtain ⟨rfl, hlc, hm, hc⟩ := hz
 have HC := Lib.hid hc
 clear hc
 obtain ⟨a, len, cap⟩ := z
 simp only at hlc hm HC ⊢
 have hm' : cap ≤ 9223372036854775807 := by unfold maxLen at hm; omega
 by_cases hl : len ≤ 2000
 ·
  go_enter Try.func38, Try.ntmps38
  go_wp2
  go_ret
  refine ⟨w.heap.size, rfl, Nat.le_refl _, ⟨a, len, cap, 0, heap_alloc_new w _, Nat.le_refl _, hl, hlc, hm, fun i hi => ?_⟩, (by repeat' (first | with_reducible exact Below.refl _ _ | with_reducible assumption | with_reducible refine Below.alloc ?_ ?_ _ | with_reducible refine Below.drew ?_ | with_reducible refine Below.setCell ?_ ?_ _ | omega | (simp; omega) | (simp; done)))⟩
  obtain ⟨b, off, x, h1, h2, h3, h4, h5⟩ := HC.out i hi
  exact ⟨b, off, x, h1, h2, h3, h4, by rw [(Below.alloc (Below.refl w.heap.size w) (Nat.le_refl _) _).cell (p := ⟨b, off + i, none⟩) h2]; exact h5⟩
 ·
  obtain ⟨b, off, x, ha, _⟩ := HC.out 0 (by omega)
  subst ha
  go_enter Try.func38, Try.ntmps38
  go_wp2
  all_goals go_ret
  all_goals refine ⟨w.heap.size, rfl, Nat.le_refl _, ⟨some ⟨b, off, none⟩, 2000, cap, 0, heap_alloc_new w _, Nat.le_refl _, Nat.le_refl _, by omega, hm, fun i hi => ?_⟩, (by repeat' (first | with_reducible exact Below.refl _ _ | with_reducible assumption | with_reducible refine Below.alloc ?_ ?_ _ | with_reducible refine Below.drew ?_ | with_reducible refine Below.setCell ?_ ?_ _ | omega | (simp; omega) | (simp; done)))⟩
  all_goals obtain ⟨b, off, x, h1, h2, h3, h4, h5⟩ := HC.out i (by omega)
  all_goals exact ⟨b, off, x, h1, h2, h3, h4, by rw [(Below.alloc (Below.refl w.heap.size w) (Nat.le_refl _) _).cell (p := ⟨b, off + i, none⟩) h2]; exact h5⟩

/-- One of the numbers of a list. -/
def OneOf (zs : List Int) (w : World) (g P : Nat) (e : Ending) (w' : World) : Prop :=
 ∃ v : Int, v ∈ zs ∧ e = .returned (.int .i64 v) ∧ Rdr w' g (P + 1) ∧ w.grownBy w' (some g)

set_option maxHeartbeats 400000 in
theorem one_c (w : World) (g P h n : Nat) (t : TypeId) (zs : List Int) (cs : Array Value) (hr : Rdr w g P) (hP : P ≤ 1099511627776) (hne : h ≠ g) (hL : w.heap[h]? = some (.cells cs t (0, 0))) (hcs : cs = (zs.map (Value.int .i64)).toArray) (hn : zs.length = n) (h0 : 0 < n) (h1 : n ≤ 1000) :
  Calls Try.prog 64 #[.pointer (some ⟨g, 0, none⟩), .slice (some ⟨h, 0, none⟩) n n] w (OneOf zs w g P) := by
 have HL := Lib.hid hL
 have HN := Lib.hid hn
 have HCS := Lib.hid hcs
 clear hL hn hcs
 go_enter Try.func64, Try.ntmps64
 go_wp2_with fail
 refine (pick_c _ g P n hr hP (by omega)).mono ?_
 rintro e w1 ⟨v, rfl, a1, b1, -, r1, k1⟩
 replace b1 := b1 (by omega)
 have hL1 := carry k1 hne HL.out
 obtain ⟨m, rfl⟩ := Int.eq_ofNat_of_zero_le a1
 have hmn : m < n := by omega
 have hmz : m < zs.length := by rw [HN.out]; exact hmn
 have hc : w1.cell? ⟨h, m, none⟩ = some (.int .i64 zs[m]) := by
  rw [cell_of_block hL1, HCS.out]
  simp [hmz]
 clear hL1
 go_wp2_with fail
 go_ret
 exact ⟨zs[m], List.getElem_mem _, rfl, r1, k1⟩

end Go.Proofs.Ytgdhieffjflejaa

/-! DrawC -/
namespace Go.Proofs.Ytgdhieffjflejaa
open Go.RowKit Go.Joins

theorem grown_bel {a b c : World} {row : Option Nat} (h : a.grownBy b row) (k : Below a.heap.size b c) : a.grownBy c row :=
 ⟨k.os.trans h.os, k.tape.trans h.tape, k.output.trans h.output, Nat.le_trans h.size k.size, fun i hi hne => (k.block i hi).trans (h.block i hi hne)⟩
theorem Agree.grownX {X : Nat → Prop} {w V : World} {g : Nat} (h : w.grownBy V (some g)) (hg : X g) : Agree X w V := Agree.grown h hg
/-- A claim of a place of at most 5; the reader has moved on; nothing else that was there has turned. -/
def ClaimDrawn (w : World) (g P : Nat) (e : Ending) (w' : World) : Prop :=
 ∃ c : Cl, e = .returned (.agg #[.int .i64 c.s, .int .i64 c.v, .int .i64 c.r.c, .int .i64 c.r.n, .int .i64 c.r.o, .int .i64 c.r.x, .int .i64 c.r.y]) ∧ c.s ≤ 5 ∧ Rdr w' g (P + 8) ∧ w.grownBy w' (some g)

set_option maxRecDepth 100000 in
set_option maxHeartbeats 4000000 in
theorem l20Claim_c (w : World) (g P : Nat) (hr : Rdr w g P) (hP : P ≤ 1099511600000) :
  Calls Try.prog 65 #[.pointer (some ⟨g, 0, none⟩)] w (ClaimDrawn w g P) := by
 have hlt := hr.lt
 go_enter Try.func65, Try.ntmps65
 go_wp2_with fail
 refine (pick_c _ g P 3 (hr.below (by repeat' (first | with_reducible exact Below.refl _ _ | with_reducible assumption | with_reducible refine Below.alloc ?_ ?_ _ | with_reducible refine Below.drew ?_ | with_reducible refine Below.setCell ?_ ?_ _ | omega | (simp; omega) | (simp; done)))) (by omega) (by omega)).mono ?_
 rintro e w1 ⟨v1, rfl, a1, b1, -, r1, k1⟩
 replace b1 := b1 (by omega)
 go_wp2_with fail
 refine (pick_c _ g (P + 1) 3 r1 (by omega) (by omega)).mono ?_
 rintro e w2 ⟨v2, rfl, a2, b2, -, r2, k2⟩
 go_wp2_with fail
 refine (l20Req_c _ g (P + 1 + 1) r2 (by omega)).mono ?_
 rintro e w3 ⟨r, rfl, -, -, r3, k3⟩
 have k := grown_trans (grown_trans k1 k2) k3
 have hsz := k.size
 have hlt3 := r3.lt
 rw [World.size_alloc] at hsz
 have hne : w.heap.size ≠ g := by omega
 have hne3 : w3.heap.size ≠ g := by omega
 have hl4 : w.heap.size < w3.heap.size := by omega
 have hl5 : w.heap.size ≠ w3.heap.size := by omega
 have HR := Lib.hid (carry k hne (heap_alloc_new w _))
 have K : w.grownBy w3 (some g) := grown_trans (grown_of_below (by repeat' (first | with_reducible exact Below.refl _ _ | with_reducible assumption | with_reducible refine Below.alloc ?_ ?_ _ | with_reducible refine Below.drew ?_ | with_reducible refine Below.setCell ?_ ?_ _ | omega | (simp; omega) | (simp; done))) _) k
 clear k1 k2 k3 r1 r2 k
 go_wp2_with fail
 refine (pick_c _ g (P + 1 + 1 + 5) 5 (r3.below (by repeat' (first | with_reducible exact Below.refl _ _ | with_reducible assumption | with_reducible refine Below.alloc ?_ ?_ _ | with_reducible refine Below.drew ?_ | with_reducible refine Below.setCell ?_ ?_ _ | omega | (simp; omega) | (simp; done)))) (by omega) (by omega)).mono ?_
 rintro e w4 ⟨v4, rfl, a4, b4, -, r4, k4⟩
 have hs4 := k4.size
 rw [World.size_alloc] at hs4
 have hX := carry k4 hne3 (heap_alloc_new w3 _)
 have hR4 := carry k4 hne (by rw [Below.heap_alloc _ _ _ hl4]; exact HR.out)
 have K4 : w.grownBy w4 (some g) := grown_trans (grown_alloc K _) k4
 clear k4 K r3 b4 a4
 have hc := cell_of_block hR4
 have hf := unfrozen_of_block hR4
 have hcX := cell_of_block hX
 have hfX := unfrozen_of_block hX
 have hl6 : w3.heap.size < w4.heap.size := by omega
 clear hX hR4
 obtain ⟨q, hq⟩ : ∃ q, (v4 == 0) = q := ⟨_, rfl⟩
 cases q with
 | true =>
  go_wp2_with fail
  refine bodyPost_ret (v := .agg #[.int .i64 (1 + v1), .int .i64 v2, .int .i64 0, .int .i64 0, .int .i64 0, .int .i64 0, .int .i64 0]) (by simp [results, Try.results65, go_sem, hc]) rfl ?_
  exact ⟨⟨1 + v1, v2, ⟨0, 0, 0, 0, 0⟩⟩, rfl, by show 1 + v1 ≤ 5; omega, (r4.below (by repeat' (first | with_reducible exact Below.refl _ _ | with_reducible assumption | with_reducible refine Below.alloc ?_ ?_ _ | with_reducible refine Below.drew ?_ | with_reducible refine Below.setCell ?_ ?_ _ | omega | (simp; omega) | (simp; done)))).mono (by omega), by repeat (first | with_reducible exact K4 | with_reducible refine grown_alloc ?_ _ | with_reducible refine grown_setCell ?_ (.inr (by simp; try omega)) _)⟩
 | false =>
  go_wp2_with fail
  refine bodyPost_ret (v := .agg #[.int .i64 (1 + v1), .int .i64 v2, .int .i64 r.c, .int .i64 r.n, .int .i64 r.o, .int .i64 r.x, .int .i64 r.y]) (by simp [results, Try.results65, go_sem, hc]) rfl ?_
  exact ⟨⟨1 + v1, v2, r⟩, rfl, by show 1 + v1 ≤ 5; omega, (r4.below (by repeat' (first | with_reducible exact Below.refl _ _ | with_reducible assumption | with_reducible refine Below.alloc ?_ ?_ _ | with_reducible refine Below.drew ?_ | with_reducible refine Below.setCell ?_ ?_ _ | omega | (simp; omega) | (simp; done)))).mono (by omega), by repeat (first | with_reducible exact K4 | with_reducible refine grown_alloc ?_ _ | with_reducible refine grown_setCell ?_ (.inr (by simp; try omega)) _)⟩

/-- A few claims, in a list of their own. -/
def ClaimsDrawn (w : World) (g P : Nat) (e : Ending) (w' : World) : Prop :=
 ∃ (a : Option Addr) (c : Nat) (cl : List Cl), e = .returned (.slice a cl.length c) ∧ cl.length ≤ 3 ∧ (∀ z ∈ cl, z.s ≤ 5) ∧ Row w' w.heap.size 62 a c 7 Cl.cs cl ∧ Rdr w' g (P + 30) ∧ w.grownBy w' (some g)

set_option maxRecDepth 100000 in
set_option maxHeartbeats 8000000 in
theorem l20Claims_c (w : World) (g P : Nat) (hr : Rdr w g P) (hP : P ≤ 1099511500000) :
  Calls Try.prog 80 #[.pointer (some ⟨g, 0, none⟩)] w (ClaimsDrawn w g P) := by
 have hlt := hr.lt
 go_enter Try.func80, Try.ntmps80
 go_wp2_with fail
 obtain ⟨W, hW, sW, vW, kW⟩ := blocks1 w (.cells #[] 62)
 rw [← hW]
 clear hW vW
 have r0 := hr.below (kW.mono (by omega))
 have K0 : w.grownBy W (some g) := grown_of_below kW _
 clear kW
 go_loopw [3, 4] (fun st i wr => ∃ (m : Nat) (a : Option Addr) (cc : Nat) (cl : List Cl), m ≤ 3 ∧ i = .int .i64 ((m : Int) + 1) ∧ st = .slice a cl.length cc ∧ cl.length ≤ m ∧ (∀ z ∈ cl, z.s ≤ 5) ∧ Row wr w.heap.size 62 a cc 7 Cl.cs cl ∧ Rdr wr g (P + 9 * m) ∧ w.grownBy wr (some g) ∧ w.heap.size + 1 ≤ wr.heap.size) (fun _ i _ => 4 - (intOf i).toNat)
 case atStart => exact ⟨0, some ⟨w.heap.size, 0, none⟩, 0, [], by omega, rfl, rfl, Nat.zero_le _, (fun z hz => nomatch hz), Row.nil _ _ _ _ _ _, r0, K0, by omega⟩
 case round =>
  clear K0 r0 sW
  obtain ⟨m, a, cc, cl, hm, rfl, rfl, hcl, hsm, hrow, hrd, K, hs⟩ := hrel
  have RW := Lib.hid hrow
  have SM := Lib.hid hsm
  clear hrow hsm
  have hm0 : (0 : Int) ≤ (m : Int) := by omega
  by_cases hm3 : m < 3
  ·
   have hm1 : (m : Int) + 1 ≤ 3 := by omega
   go_wp2_with fail
   refine (pick_c _ g (P + 9 * m) 2 hrd (by omega) (by omega)).mono ?_
   rintro e w1 ⟨v1, rfl, -, -, -, r1, k1⟩
   have hs1 := Nat.le_trans hs k1.size
   have K1 := grown_trans K k1
   replace RW := Lib.hid (RW.out.kept k1 (fun g' hg' e => by have := (RW.out.blk hg').1; injection e; omega))
   clear k1 K hs hrd
   obtain ⟨q, hq⟩ : ∃ q, (v1 == 0) = q := ⟨_, rfl⟩
   cases q with
   | false =>
    go_wp2_with fail
    go_roundw
    case rel => exact ⟨m + 1, a, cc, cl, by omega, by go_num, rfl, by omega, SM.out, RW.out, r1.mono (by omega), K1, hs1⟩
    case measure => simp [intOf]; omega
   | true =>
    go_wp2_with fail
    refine (l20Claim_c _ g (P + 9 * m + 1) r1 (by omega)).mono ?_
    rintro e w2 ⟨c, rfl, hc5, r2, k2⟩
    have hs2 := Nat.le_trans hs1 k2.size
    have K2 := grown_trans K1 k2
    replace RW := Lib.hid (RW.out.kept k2 (fun g' hg' e => by have := (RW.out.blk hg').1; injection e; omega))
    clear k2 K1 hs1 r1 hq
    have hrb : ∀ g', rowBlk a cc = some g' → w.heap.size ≤ g' ∧ g' < w2.heap.size := fun g' hg' => RW.out.blk hg'
    go_upto_region 7 with fail
    obtain ⟨V, hV, sV, v, kV⟩ := blocks1 w2 (.cells #[.int .i64 c.s, .int .i64 c.v, .int .i64 c.r.c, .int .i64 c.r.n, .int .i64 c.r.o, .int .i64 c.r.x, .int .i64 c.r.y] 62)
    rw [← hV]
    clear hV
    replace r2 := r2.below (kV.mono (by have := r2.lt; omega))
    replace K2 := grown_trans K2 (grown_of_below kV _)
    replace RW := Lib.hid (RW.out.below kV)
    clear kV
    have cv := cell_of_block v
    have fv := unfrozen_of_block v
    have lv := lt_of_block v
    go_upto_region 8 with fail
    obtain ⟨V2, hV_, sV2, v2, oV, kV⟩ := stored1 V w2.heap.size 0 (.int .i64 ((m : Int) + 1)) v
    rw [← hV_]
    clear hV_
    clear cv fv lv
    clear v
    have hlr := r2.lt
    replace r2 := r2.below (kV.mono (by omega))
    replace RW := Lib.hid (RW.out.agree (X := fun b => b = w2.heap.size) ⟨by omega, fun b _ hb => oV b hb⟩ (fun g' hg' e => by have := (hrb g' hg').2; omega))
    have k2' : w.grownBy V2 (some g) := grown_bel K2 (kV.mono (by omega))
    have hcl3 : cl.length ≤ 3 := by omega
    have hs3 : w.heap.size + 1 ≤ V2.heap.size := by omega
    have hlr2 : g < V2.heap.size := by omega
    clear kV oV K2 sV sV2
    have cv2 := cell_of_block v2
    have fv2 := unfrozen_of_block v2
    have lv2 := lt_of_block v2
    go_wp2_with (at_builtin; refine wpList_append_rowM rfl _ _ rfl (cl.length + 1) elmCl rfl rfl (RW.out.below ((Below.refl V2.heap.size V2).alloc (Nat.le_refl _) _)) (ys := [⟨(m : Int) + 1, c.v, c.r⟩]) (fun z _ => cl_one z) (rows_of_block (R := Cl.cs) (zs := [⟨(m : Int) + 1, c.v, c.r⟩]) (fun _ => rfl) (heap_alloc_new V2 _)) rfl rfl rfl (by simp only [maxLen]; omega) (by omega) (by simp; omega) ?_)
    intro a3 c3 U3 q3
    have kA : Below V2.heap.size V2 (V2.alloc (.cells #[.int .i64 ((m : Int) + 1), .int .i64 c.v, .int .i64 c.r.c, .int .i64 c.r.n, .int .i64 c.r.o, .int .i64 c.r.x, .int .i64 c.r.y] 62)) := (Below.refl V2.heap.size V2).alloc (Nat.le_refl _) _
    have k3w : Below w.heap.size V2 U3 := (kA.mono (by omega)).trans (q3.below (by simp; omega) (fun g' hg' => (hrb g' hg').1))
    have hsU := k3w.size
    replace r2 := r2.below (k3w.mono (by omega))
    have k4 : w.grownBy U3 (some g) := grown_bel k2' k3w
    have RW2 := Lib.hid q3.row
    have SM2 := Lib.hid (show ∀ z ∈ cl ++ [⟨(m : Int) + 1, c.v, c.r⟩], z.s ≤ 5 from fun z hz => (List.mem_append.1 hz).elim (SM.out z) (fun h => by rw [List.mem_singleton.1 h]; show (m : Int) + 1 ≤ 5; omega))
    clear cv2 fv2 lv2
    clear q3 kA k3w RW SM v2 k2'
    go_wp2_with fail
    go_roundw
    case rel => exact ⟨m + 1, a3, c3, cl ++ [⟨(m : Int) + 1, c.v, c.r⟩], by omega, by go_num, by simp, by simp; omega, SM2.out, RW2.out, r2.mono (by omega), k4, by omega⟩
    case measure => simp [intOf]; omega
  ·
   have hm1 : ¬ ((m : Int) + 1 ≤ 3) := by omega
   go_wp2_with fail
   go_ret
   exact ⟨a, cc, cl, rfl, by omega, SM.out, RW.out, hrd.mono (by omega), K⟩

/-- A few votes, in a list of their own; their claims too lie in new blocks. -/
def VotesDrawn (w : World) (g P : Nat) (e : Ending) (w' : World) : Prop :=
 ∃ (a : Option Addr) (c : Nat) (vs : List Vx), e = .returned (.slice a vs.length c) ∧ vs.length ≤ 4 ∧ VsFit vs ∧ Rob (Lo w.heap.size) (fun V => IsVs V (.slice a vs.length c) vs) w' ∧ Rdr w' g (P + 124) ∧ w.grownBy w' (some g)

set_option maxRecDepth 100000 in
set_option maxHeartbeats 8000000 in
theorem l20Votes_c (w : World) (g P : Nat) (hr : Rdr w g P) (hP : P ≤ 1099511400000) :
  Calls Try.prog 81 #[.pointer (some ⟨g, 0, none⟩)] w (VotesDrawn w g P) := by
 have hlt := hr.lt
 go_enter Try.func81, Try.ntmps81
 go_wp2_with fail
 obtain ⟨W, hW, sW, vW, kW⟩ := blocks1 w (.cells #[] 65)
 rw [← hW]
 clear hW vW
 have r0 := hr.below (kW.mono (by omega))
 have K0 : w.grownBy W (some g) := grown_of_below kW _
 clear kW
 go_loopw [3, 4] (fun st i wr => ∃ (m : Nat) (a : Option Addr) (cc : Nat) (vs : List Vx), m ≤ 4 ∧ i = .int .i64 m ∧ st = .slice a vs.length cc ∧ vs.length ≤ m ∧ VsFit vs ∧ Row wr w.heap.size 65 a cc 2 Vx.cs vs ∧ Rob (Ow w.heap.size a cc) (fun V => ∀ z ∈ vs, IsSl V z.sl 7 Cl.cs z.cl) wr ∧ Rdr wr g (P + 31 * m) ∧ w.grownBy wr (some g) ∧ w.heap.size + 1 ≤ wr.heap.size) (fun _ i _ => 4 - (intOf i).toNat)
 case atStart => exact ⟨0, some ⟨w.heap.size, 0, none⟩, 0, [], by omega, rfl, rfl, Nat.zero_le _, ⟨Nat.zero_le _, fun z hz => nomatch hz⟩, Row.nil _ _ _ _ _ _, (fun V hV z hz => nomatch hz), r0, K0, by omega⟩
 case round =>
  clear K0 r0 sW
  obtain ⟨m, a, cc, vs, hm, rfl, rfl, hvl, hvf, hrow, hcl, hrd, K, hs⟩ := hrel
  have RW := Lib.hid hrow
  have CLS := Lib.hid hcl
  have VF := Lib.hid hvf
  clear hrow hcl hvf
  have hm0 : (0 : Int) ≤ (m : Int) := by omega
  by_cases hm3 : m < 4
  ·
   have hm1 : (m : Int) < 4 := by omega
   go_wp2_with fail
   refine (pick_c _ g (P + 31 * m) 4 hrd (by omega) (by omega)).mono ?_
   rintro e w1 ⟨v1, rfl, -, -, -, r1, k1⟩
   have hs1 := Nat.le_trans hs k1.size
   have K1 := grown_trans K k1
   replace CLS := Lib.hid (CLS.out.next (Agree.grown k1 (.inl hlt)))
   replace RW := Lib.hid (RW.out.kept k1 (fun g' hg' e => by have := (RW.out.blk hg').1; injection e; omega))
   clear k1 K hs hrd
   obtain ⟨q, hq⟩ : ∃ q, decide ((0 : Int) < v1) = q := ⟨_, rfl⟩
   cases q with
   | false =>
    go_wp2_with fail
    go_roundw
    case rel => exact ⟨m + 1, a, cc, vs, by omega, by go_num, rfl, by omega, VF.out, RW.out, CLS.out, r1.mono (by omega), K1, hs1⟩
    case measure => simp [intOf]; omega
   | true =>
    go_wp2_with fail
    refine (l20Claims_c _ g (P + 31 * m + 1) r1 (by omega)).mono ?_
    rintro e w2 ⟨a2, c2, cl, rfl, hc3, hc5, hcr, r2, k2⟩
    have hs2 := Nat.le_trans hs1 k2.size
    have K2 := grown_trans K1 k2
    have hrb : ∀ g', rowBlk a cc = some g' → w.heap.size ≤ g' ∧ g' < w1.heap.size := fun g' hg' => RW.out.blk hg'
    have NX := Lib.hid (Rob.ow (a := a) (cap := cc) (hcr.rob seven_len) (B := w.heap.size) (by omega) (fun g' hg' => (hrb g' hg').2))
    replace CLS := Lib.hid (CLS.out.next (Agree.grown k2 (.inl hlt)))
    replace RW := Lib.hid (RW.out.kept k2 (fun g' hg' e => by have := (hrb g' hg').1; injection e; omega))
    clear k2 K1 hs1 r1 hq hcr
    have hvl3 : vs.length ≤ 3 := by omega
    have hs3 : w.heap.size + 1 ≤ w2.heap.size := by omega
    go_wp2_with (at_builtin; refine wpList_append_rowM rfl _ _ rfl (vs.length + 1) elmVx rfl rfl (RW.out.below ((Below.refl w2.heap.size w2).alloc (Nat.le_refl _) _)) (ys := [⟨(m : Int), .slice a2 cl.length c2, cl⟩]) (fun z hz => by rw [List.mem_singleton.1 hz]; exact vx_one (w := w2) NX.out.out) (rows_of_block (R := Vx.cs) (zs := [⟨(m : Int), .slice a2 cl.length c2, cl⟩]) two_len (heap_alloc_new w2 _)) rfl rfl rfl (by simp only [maxLen]; omega) (by omega) (by simp; omega) ?_)
    intro a3 c3 U3 q3
    have kA : Below w2.heap.size w2 (w2.alloc (.cells #[.int .i64 (m : Int), .slice a2 cl.length c2] 65)) := (Below.refl w2.heap.size w2).alloc (Nat.le_refl _) _
    have k3w : Below w.heap.size w2 U3 := (kA.mono (by omega)).trans (q3.below (by simp; omega) (fun g' hg' => (hrb g' hg').1))
    have hsU := k3w.size
    replace r2 := r2.below (k3w.mono (by omega))
    have k4 : w.grownBy U3 (some g) := grown_bel K2 k3w
    have CL2 := Lib.hid (((CLS.out.and NX.out).imp (G := fun V => ∀ z ∈ vs ++ [⟨(m : Int), .slice a2 cl.length c2, cl⟩], IsSl V z.sl 7 Cl.cs z.cl) (fun V h z hz => (List.mem_append.1 hz).elim (h.1 z) (fun hz' => by rw [List.mem_singleton.1 hz']; exact h.2))).below kA |>.appended q3)
    have RW2 := Lib.hid q3.row
    have VF2 := Lib.hid (show VsFit (vs ++ [⟨(m : Int), .slice a2 cl.length c2, cl⟩]) from ⟨by simp; omega, fun z hz => (List.mem_append.1 hz).elim (VF.out.2 z) (fun hz' => by rw [List.mem_singleton.1 hz']; exact ⟨by show cl.length ≤ 8; omega, hc5⟩)⟩)
    clear q3 kA k3w RW CLS VF NX hc5 K2
    go_wp2_with fail
    go_roundw
    case rel => exact ⟨m + 1, a3, c3, vs ++ [⟨(m : Int), .slice a2 cl.length c2, cl⟩], by omega, by go_num, by simp, by simp; omega, VF2.out, RW2.out, CL2.out, r2.mono (by omega), k4, by omega⟩
    case measure => simp [intOf]; omega
  ·
   have hm1 : ¬ ((m : Int) < 4) := by omega
   go_wp2_with fail
   go_ret
   exact ⟨a, cc, vs, rfl, by omega, VF.out, (RW.out.rob two_len).and (CLS.out.unow), hrd.mono (by omega), K⟩
end Go.Proofs.Ytgdhieffjflejaa

/-! DrawM -/
namespace Go.Proofs.Ytgdhieffjflejaa
open Go.RowKit Go.Joins

/-- A letter; the reader has moved on; nothing else that was there has turned. -/
def MsgDrawn (w : World) (g P : Nat) (e : Ending) (w' : World) : Prop :=
 ∃ (m : Mg) (a : Option Addr) (c : Nat) (b : Option Addr) (d : Nat), e = .returned (.agg #[.int .i64 m.k, .int .i64 m.f, .int .i64 m.v, .int .i64 m.s, .int .i64 m.r.c, .int .i64 m.r.n, .int .i64 m.r.o, .int .i64 m.r.x, .int .i64 m.r.y, .slice a m.cl.length c, .slice b m.vs.length d]) ∧ m.vc = .slice a m.cl.length c ∧ m.vv = .slice b m.vs.length d ∧ m.fit ∧ Rob (Lo w.heap.size) m.ok w' ∧ Rdr w' g (P + 130) ∧ w.grownBy w' (some g)

set_option maxRecDepth 100000 in
set_option maxHeartbeats 16000000 in
theorem l20Msg_c (w : World) (g P : Nat) (hr : Rdr w g P) (hP : P ≤ 1099511000000) :
  Calls Try.prog 63 #[.pointer (some ⟨g, 0, none⟩)] w (MsgDrawn w g P) := by
 have hlt := hr.lt
 go_enter Try.func63, Try.ntmps63
 go_wp2_with fail
 refine (pick_c _ g P 6 (hr.below (by repeat' (first | with_reducible exact Below.refl _ _ | with_reducible assumption | with_reducible refine Below.alloc ?_ ?_ _ | with_reducible refine Below.drew ?_ | with_reducible refine Below.setCell ?_ ?_ _ | omega | (simp; omega) | (simp; done)))) (by omega) (by omega)).mono ?_
 rintro e w1 ⟨v1, rfl, a1, b1, -, r1, k1⟩
 replace b1 := b1 (by omega)
 go_wp2_with fail
 refine (pick_c _ g (P + 1) 4 r1 (by omega) (by omega)).mono ?_
 rintro e w2 ⟨v2, rfl, a2, b2, -, r2, k2⟩
 go_wp2_with fail
 refine (pick_c _ g (P + 1 + 1) 3 r2 (by omega) (by omega)).mono ?_
 rintro e w3 ⟨v3, rfl, a3, b3, -, r3, k3⟩
 have k := grown_trans (grown_trans k1 k2) k3
 have hsz := k.size
 have hlt3 := r3.lt
 rw [World.size_alloc] at hsz
 have hne : w.heap.size ≠ g := by omega
 have hne3 : w3.heap.size ≠ g := by omega
 have hl4 : w.heap.size < w3.heap.size := by omega
 have hl5 : w.heap.size ≠ w3.heap.size := by omega
 have R := carry k hne (heap_alloc_new w (.cells #[.int .i64 0, .int .i64 0, .int .i64 0, .int .i64 0, .int .i64 0, .int .i64 0, .int .i64 0, .int .i64 0, .int .i64 0, .slice none 0 0, .slice none 0 0] 34))
 have K : w.grownBy w3 (some g) := grown_trans (grown_of_below (by repeat' (first | with_reducible exact Below.refl _ _ | with_reducible assumption | with_reducible refine Below.alloc ?_ ?_ _ | with_reducible refine Below.drew ?_ | with_reducible refine Below.setCell ?_ ?_ _ | omega | (simp; omega) | (simp; done))) _) k
 clear k1 k2 k3 r1 r2 k
 go_upto_region 2 with fail
 obtain ⟨V, hV, sV, x, kV⟩ := blocks1 w3 (.cells #[.int .i64 (1 + v1), .int .i64 v2, .int .i64 v3, .int .i64 0, .int .i64 0, .int .i64 0, .int .i64 0, .int .i64 0, .int .i64 0, .slice none 0 0, .slice none 0 0] 34)
 rw [← hV]
 clear hV
 replace R := carryB kV hl4 R
 replace r3 := r3.below (kV.mono (by omega))
 replace K := grown_trans K (grown_of_below kV _)
 have hV3 : w3.heap.size < V.heap.size := by omega
 clear kV sV hsz a2 b2 a3 b3
 have h6 : v1 = 0 ∨ v1 = 1 ∨ v1 = 2 ∨ v1 = 3 ∨ v1 = 4 ∨ v1 = 5 := by omega
 rcases h6 with rfl | rfl | rfl | rfl | rfl | rfl
 ·
  skip
  have cx := cell_of_block x
  have fx := unfrozen_of_block x
  have lx := lt_of_block x
  go_wp2_with fail
  refine (l20Req_c _ g (P + 1 + 1 + 1) r3 (by omega)).mono ?_
  rintro e w4 ⟨r, rfl, -, -, r4, k4⟩
  clear cx fx lx
  have hs4 := k4.size
  have x4 := carry k4 hne3 x
  have R4 := carry k4 hne R
  have KK : w.grownBy w4 (some g) := grown_trans K k4
  have hlg : g < V.heap.size := by omega
  clear k4 K r3 x R
  have lx_ := lt_of_block x4
  have hc := cell_of_block R4
  have hf := unfrozen_of_block R4
  have hcX := cell_of_block x4
  have hfX := unfrozen_of_block x4
  clear x4 R4
  go_wp2_with fail
  refine bodyPost_ret (v := .agg #[.int .i64 1, .int .i64 0, .int .i64 0, .int .i64 0, .int .i64 r.c, .int .i64 r.n, .int .i64 r.o, .int .i64 r.x, .int .i64 r.y, .slice none 0 0, .slice none 0 0]) (by simp [results, Try.results63, go_sem, hc]) rfl ?_
  exact ⟨plainM 1 0 0 0 r, none, 0, none, 0, rfl, rfl, rfl, plainM_fit _ _ _ _ _, fun V' _ => plainM_ok V' _ _ _ _ _, (r4.below (by repeat' (first | with_reducible exact Below.refl _ _ | with_reducible assumption | with_reducible refine Below.alloc ?_ ?_ _ | with_reducible refine Below.drew ?_ | with_reducible refine Below.setCell ?_ ?_ _ | omega | (simp; omega) | (simp; done)))).mono (by omega), by repeat (first | with_reducible exact KK | with_reducible refine grown_alloc ?_ _ | with_reducible refine grown_setCell ?_ (.inr (by simp; try omega)) _)⟩
 ·
  skip
  have cx := cell_of_block x
  have fx := unfrozen_of_block x
  have lx := lt_of_block x
  go_wp2_with fail
  refine (pick_c _ g (P + 1 + 1 + 1) 3 r3 (by omega) (by omega)).mono ?_
  rintro e w4 ⟨v4, rfl, a4, b4, -, r4, k4⟩
  clear cx fx lx
  replace b4 := b4 (by omega)
  have hs4 := k4.size
  have x4 := carry k4 hne3 x
  have R4 := carry k4 hne R
  have KK : w.grownBy w4 (some g) := grown_trans K k4
  have hlg : g < V.heap.size := by omega
  clear k4 K r3 x R
  have cx4 := cell_of_block x4
  have fx4 := unfrozen_of_block x4
  have lx4 := lt_of_block x4
  go_upto_region 9 with fail
  obtain ⟨V4, hV_, sV4, x5, oV, kV⟩ := stored1 w4 w3.heap.size 3 (.int .i64 (1 + v4)) x4
  rw [← hV_]
  clear hV_
  clear cx4 fx4 lx4
  clear x4
  replace R4 := (oV _ hl5).trans R4
  replace r4 := r4.below (kV.mono (by omega))
  replace KK : w.grownBy V4 (some g) := grown_bel KK (kV.mono (by omega))
  have hs5 : V.heap.size ≤ V4.heap.size := by omega
  clear kV oV sV4 hs4
  have cx5 := cell_of_block x5
  have fx5 := unfrozen_of_block x5
  have lx5 := lt_of_block x5
  go_wp2_with fail
  refine (l20Req_c _ g (P + 1 + 1 + 1 + 1) r4 (by omega)).mono ?_
  rintro e w5 ⟨r, rfl, -, -, r5, k5⟩
  clear cx5 fx5 lx5
  have hs6 := k5.size
  have x4 := carry k5 hne3 x5
  replace R4 := carry k5 hne R4
  replace KK : w.grownBy w5 (some g) := grown_trans KK k5
  clear k5 r4 x5
  have lx_ := lt_of_block x4
  have hc := cell_of_block R4
  have hf := unfrozen_of_block R4
  have hcX := cell_of_block x4
  have hfX := unfrozen_of_block x4
  clear x4 R4
  go_wp2_with fail
  refine bodyPost_ret (v := .agg #[.int .i64 2, .int .i64 v2, .int .i64 v3, .int .i64 (1 + v4), .int .i64 r.c, .int .i64 r.n, .int .i64 r.o, .int .i64 r.x, .int .i64 r.y, .slice none 0 0, .slice none 0 0]) (by simp [results, Try.results63, go_sem, hc]) rfl ?_
  exact ⟨plainM 2 v2 v3 (1 + v4) r, none, 0, none, 0, rfl, rfl, rfl, plainM_fit _ _ _ _ _, fun V' _ => plainM_ok V' _ _ _ _ _, (r5.below (by repeat' (first | with_reducible exact Below.refl _ _ | with_reducible assumption | with_reducible refine Below.alloc ?_ ?_ _ | with_reducible refine Below.drew ?_ | with_reducible refine Below.setCell ?_ ?_ _ | omega | (simp; omega) | (simp; done)))).mono (by omega), by repeat (first | with_reducible exact KK | with_reducible refine grown_alloc ?_ _ | with_reducible refine grown_setCell ?_ (.inr (by simp; try omega)) _)⟩
 ·
  skip
  have cx := cell_of_block x
  have fx := unfrozen_of_block x
  have lx := lt_of_block x
  go_wp2_with fail
  refine (pick_c _ g (P + 1 + 1 + 1) 3 r3 (by omega) (by omega)).mono ?_
  rintro e w4 ⟨v4, rfl, a4, b4, -, r4, k4⟩
  clear cx fx lx
  replace b4 := b4 (by omega)
  have hs4 := k4.size
  have x4 := carry k4 hne3 x
  have R4 := carry k4 hne R
  have KK : w.grownBy w4 (some g) := grown_trans K k4
  have hlg : g < V.heap.size := by omega
  clear k4 K r3 x R
  have cx4 := cell_of_block x4
  have fx4 := unfrozen_of_block x4
  have lx4 := lt_of_block x4
  go_upto_region 9 with fail
  obtain ⟨V4, hV_, sV4, x5, oV, kV⟩ := stored1 w4 w3.heap.size 3 (.int .i64 (1 + v4)) x4
  rw [← hV_]
  clear hV_
  clear cx4 fx4 lx4
  clear x4
  replace R4 := (oV _ hl5).trans R4
  replace r4 := r4.below (kV.mono (by omega))
  replace KK : w.grownBy V4 (some g) := grown_bel KK (kV.mono (by omega))
  have hs5 : V.heap.size ≤ V4.heap.size := by omega
  clear kV oV sV4 hs4
  have cx5 := cell_of_block x5
  have fx5 := unfrozen_of_block x5
  have lx5 := lt_of_block x5
  go_wp2_with fail
  refine (l20Req_c _ g (P + 1 + 1 + 1 + 1) r4 (by omega)).mono ?_
  rintro e w5 ⟨r, rfl, -, -, r5, k5⟩
  clear cx5 fx5 lx5
  have hs6 := k5.size
  have x4 := carry k5 hne3 x5
  replace R4 := carry k5 hne R4
  replace KK : w.grownBy w5 (some g) := grown_trans KK k5
  clear k5 r4 x5
  have lx_ := lt_of_block x4
  have hc := cell_of_block R4
  have hf := unfrozen_of_block R4
  have hcX := cell_of_block x4
  have hfX := unfrozen_of_block x4
  clear x4 R4
  go_wp2_with fail
  refine bodyPost_ret (v := .agg #[.int .i64 3, .int .i64 v2, .int .i64 v3, .int .i64 (1 + v4), .int .i64 r.c, .int .i64 r.n, .int .i64 r.o, .int .i64 r.x, .int .i64 r.y, .slice none 0 0, .slice none 0 0]) (by simp [results, Try.results63, go_sem, hc]) rfl ?_
  exact ⟨plainM 3 v2 v3 (1 + v4) r, none, 0, none, 0, rfl, rfl, rfl, plainM_fit _ _ _ _ _, fun V' _ => plainM_ok V' _ _ _ _ _, (r5.below (by repeat' (first | with_reducible exact Below.refl _ _ | with_reducible assumption | with_reducible refine Below.alloc ?_ ?_ _ | with_reducible refine Below.drew ?_ | with_reducible refine Below.setCell ?_ ?_ _ | omega | (simp; omega) | (simp; done)))).mono (by omega), by repeat (first | with_reducible exact KK | with_reducible refine grown_alloc ?_ _ | with_reducible refine grown_setCell ?_ (.inr (by simp; try omega)) _)⟩
 ·
  skip
  have cx := cell_of_block x
  have fx := unfrozen_of_block x
  have lx := lt_of_block x
  go_wp2_with fail
  refine (pick_c _ g (P + 1 + 1 + 1) 3 r3 (by omega) (by omega)).mono ?_
  rintro e w4 ⟨v4, rfl, a4, b4, -, r4, k4⟩
  clear cx fx lx
  replace b4 := b4 (by omega)
  have hs4 := k4.size
  have x4 := carry k4 hne3 x
  have R4 := carry k4 hne R
  have KK : w.grownBy w4 (some g) := grown_trans K k4
  have hlg : g < V.heap.size := by omega
  clear k4 K r3 x R
  have cx4 := cell_of_block x4
  have fx4 := unfrozen_of_block x4
  have lx4 := lt_of_block x4
  go_upto_region 9 with fail
  obtain ⟨V4, hV_, sV4, x5, oV, kV⟩ := stored1 w4 w3.heap.size 3 (.int .i64 (1 + v4)) x4
  rw [← hV_]
  clear hV_
  clear cx4 fx4 lx4
  clear x4
  replace R4 := (oV _ hl5).trans R4
  replace r4 := r4.below (kV.mono (by omega))
  replace KK : w.grownBy V4 (some g) := grown_bel KK (kV.mono (by omega))
  have hs5 : V.heap.size ≤ V4.heap.size := by omega
  clear kV oV sV4 hs4
  have cx5 := cell_of_block x5
  have fx5 := unfrozen_of_block x5
  have lx5 := lt_of_block x5
  go_wp2_with fail
  refine (l20Req_c _ g (P + 1 + 1 + 1 + 1) r4 (by omega)).mono ?_
  rintro e w5 ⟨r, rfl, -, -, r5, k5⟩
  clear cx5 fx5 lx5
  have hs6 := k5.size
  have x4 := carry k5 hne3 x5
  replace R4 := carry k5 hne R4
  replace KK : w.grownBy w5 (some g) := grown_trans KK k5
  clear k5 r4 x5
  have lx_ := lt_of_block x4
  have hc := cell_of_block R4
  have hf := unfrozen_of_block R4
  have hcX := cell_of_block x4
  have hfX := unfrozen_of_block x4
  clear x4 R4
  go_wp2_with fail
  refine bodyPost_ret (v := .agg #[.int .i64 4, .int .i64 v2, .int .i64 v3, .int .i64 (1 + v4), .int .i64 r.c, .int .i64 r.n, .int .i64 r.o, .int .i64 r.x, .int .i64 r.y, .slice none 0 0, .slice none 0 0]) (by simp [results, Try.results63, go_sem, hc]) rfl ?_
  exact ⟨plainM 4 v2 v3 (1 + v4) r, none, 0, none, 0, rfl, rfl, rfl, plainM_fit _ _ _ _ _, fun V' _ => plainM_ok V' _ _ _ _ _, (r5.below (by repeat' (first | with_reducible exact Below.refl _ _ | with_reducible assumption | with_reducible refine Below.alloc ?_ ?_ _ | with_reducible refine Below.drew ?_ | with_reducible refine Below.setCell ?_ ?_ _ | omega | (simp; omega) | (simp; done)))).mono (by omega), by repeat (first | with_reducible exact KK | with_reducible refine grown_alloc ?_ _ | with_reducible refine grown_setCell ?_ (.inr (by simp; try omega)) _)⟩
 ·
  skip
  have cx := cell_of_block x
  have fx := unfrozen_of_block x
  have lx := lt_of_block x
  go_wp2_with fail
  refine (l20Claims_c _ g (P + 1 + 1 + 1) r3 (by omega)).mono ?_
  rintro e w4 ⟨a, c, cl, rfl, hc3, hc5, hcr, r4, k4⟩
  clear cx fx lx
  have hs4 := k4.size
  have x4 := carry k4 hne3 x
  have R4 := carry k4 hne R
  have KK : w.grownBy w4 (some g) := grown_trans K k4
  have hlg : g < V.heap.size := by omega
  clear k4 K r3 x R
  have lx_ := lt_of_block x4
  have hc := cell_of_block R4
  have hf := unfrozen_of_block R4
  have hcX := cell_of_block x4
  have hfX := unfrozen_of_block x4
  clear x4 R4
  have h1 := hcr.rob seven_len
  have H1 := Lib.hid h1
  clear h1 hcr
  go_wp2_with fail
  refine bodyPost_ret (v := .agg #[.int .i64 5, .int .i64 v2, .int .i64 v3, .int .i64 0, .int .i64 0, .int .i64 0, .int .i64 0, .int .i64 0, .int .i64 0, .slice a cl.length c, .slice none 0 0]) (by simp [results, Try.results63, go_sem, hc]) rfl ?_
  refine ⟨⟨5, v2, v3, 0, ⟨0, 0, 0, 0, 0⟩, .slice a cl.length c, .slice none 0 0, cl, []⟩, a, c, none, 0, rfl, rfl, rfl, ⟨⟨by show cl.length ≤ 8; omega, hc5⟩, Nat.zero_le _, fun z hz => nomatch hz⟩, fun V' hV' => ⟨Rob.low (B := V.heap.size) (F := fun V' => IsSl V' (.slice a cl.length c) 7 Cl.cs cl) ?_ (by omega) V' hV', isSl_nil _ _ _ _ (Nat.zero_le _) _, fun z hz => nomatch hz⟩, (r4.below (by repeat' (first | with_reducible exact Below.refl _ _ | with_reducible assumption | with_reducible refine Below.alloc ?_ ?_ _ | with_reducible refine Below.drew ?_ | with_reducible refine Below.setCell ?_ ?_ _ | omega | (simp; omega) | (simp; done)))).mono (by omega), by repeat (first | with_reducible exact KK | with_reducible refine grown_alloc ?_ _ | with_reducible refine grown_setCell ?_ (.inr (by simp; try omega)) _)⟩
  have h1 := H1.out
  repeat' (first | with_reducible exact h1 | refine Rob.set ?_ (by simp only; omega) _)
 ·
  skip
  have cx := cell_of_block x
  have fx := unfrozen_of_block x
  have lx := lt_of_block x
  go_wp2_with fail
  refine (l20Votes_c _ g (P + 1 + 1 + 1) r3 (by omega)).mono ?_
  rintro e w4 ⟨a, c, vs, rfl, hc4, hvf, hvr, r4, k4⟩
  clear cx fx lx
  have hs4 := k4.size
  have x4 := carry k4 hne3 x
  have R4 := carry k4 hne R
  have KK : w.grownBy w4 (some g) := grown_trans K k4
  have hlg : g < V.heap.size := by omega
  clear k4 K r3 x R
  have lx_ := lt_of_block x4
  have hc := cell_of_block R4
  have hf := unfrozen_of_block R4
  have hcX := cell_of_block x4
  have hfX := unfrozen_of_block x4
  clear x4 R4
  have H1 := Lib.hid hvr
  clear hvr
  go_wp2_with fail
  refine bodyPost_ret (v := .agg #[.int .i64 6, .int .i64 v2, .int .i64 v3, .int .i64 0, .int .i64 0, .int .i64 0, .int .i64 0, .int .i64 0, .int .i64 0, .slice none 0 0, .slice a vs.length c]) (by simp [results, Try.results63, go_sem, hc]) rfl ?_
  refine ⟨⟨6, v2, v3, 0, ⟨0, 0, 0, 0, 0⟩, .slice none 0 0, .slice a vs.length c, [], vs⟩, none, 0, a, c, rfl, rfl, rfl, ⟨⟨Nat.zero_le _, fun c hc => nomatch hc⟩, hvf⟩, fun V' hV' => ⟨isSl_nil _ _ _ _ (Nat.zero_le _) _, Rob.low (B := V.heap.size) (F := fun V' => IsVs V' (.slice a vs.length c) vs) ?_ (by omega) V' hV'⟩, (r4.below (by repeat' (first | with_reducible exact Below.refl _ _ | with_reducible assumption | with_reducible refine Below.alloc ?_ ?_ _ | with_reducible refine Below.drew ?_ | with_reducible refine Below.setCell ?_ ?_ _ | omega | (simp; omega) | (simp; done)))).mono (by omega), by repeat (first | with_reducible exact KK | with_reducible refine grown_alloc ?_ _ | with_reducible refine grown_setCell ?_ (.inr (by simp; try omega)) _)⟩
  have h1 := H1.out
  repeat' (first | with_reducible exact h1 | refine Rob.set ?_ (by simp only; omega) _)
end Go.Proofs.Ytgdhieffjflejaa
