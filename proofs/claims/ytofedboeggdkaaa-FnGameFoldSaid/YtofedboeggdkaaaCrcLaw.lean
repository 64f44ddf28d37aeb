/- The checksum as a function on lists of bytes, and that one turned byte turns it: plain arithmetic, no program; no condition. -/
import Derived.WalkKit
namespace Go.Proofs.Ytofedboeggdkaaa
open Go.RowKit

def crcStep (c : Nat) : Nat := if c % 2 = 1 then (c / 2) ^^^ 3988292384 else c / 2
def crcRun : Nat → Nat → Nat
  | 0, c => c
  | n + 1, c => crcStep (crcRun n c)
def crcFold (l : List UInt8) (c : Nat) : Nat := l.foldl (fun c b => crcRun 8 (c ^^^ b.toNat)) c
def crcOf (l : List UInt8) : Nat := crcFold l 4294967295 ^^^ 4294967295

theorem crcStep_two (c : Nat) : (c % 2 = 1 ∧ crcStep c = (c / 2) ^^^ 3988292384) ∨ (c % 2 = 0 ∧ crcStep c = c / 2) := by
  unfold crcStep
  split
  · exact .inl ⟨‹_›, rfl⟩
  · exact .inr ⟨by omega, rfl⟩
theorem crcStep_lt {c : Nat} (h : c < 2 ^ 32) : crcStep c < 2 ^ 32 := by
  unfold crcStep
  split
  · exact Nat.xor_lt_two_pow (by omega) (by decide)
  · omega
theorem crcRun_lt {n c : Nat} (h : c < 2 ^ 32) : crcRun n c < 2 ^ 32 := by
  induction n with
  | zero => exact h
  | succ n ih => exact crcStep_lt ih
theorem byte_lt {c : Nat} (b : UInt8) (h : c < 2 ^ 32) : c ^^^ b.toNat < 2 ^ 32 := Nat.xor_lt_two_pow h (by have := b.toNat_lt; omega)
theorem crcFold_lt (l : List UInt8) {c : Nat} (h : c < 2 ^ 32) : crcFold l c < 2 ^ 32 := by
  induction l generalizing c with
  | nil => exact h
  | cons b l ih => exact ih (crcRun_lt (byte_lt b h))
theorem crcFold_snoc (l : List UInt8) (b : UInt8) (c : Nat) : crcFold (l ++ [b]) c = crcRun 8 (crcFold l c ^^^ b.toNat) := by
  unfold crcFold; rw [List.foldl_append]; rfl
theorem crcOf_lt (l : List UInt8) : crcOf l < 2 ^ 32 := Nat.xor_lt_two_pow (crcFold_lt l (by decide)) (by decide)

theorem xor_cancel {a b p : Nat} (h : a ^^^ p = b ^^^ p) : a = b := by
  have := congrArg (· ^^^ p) h
  simpa [Nat.xor_assoc] using this
theorem xor_cancel_left {a b p : Nat} (h : p ^^^ a = p ^^^ b) : a = b := by
  rw [Nat.xor_comm p a, Nat.xor_comm p b] at h; exact xor_cancel h
theorem top_parts {a b : Nat} (ha : a < 2 ^ 31) (hb : b < 2 ^ 31) : a ^^^ 3988292384 ≠ b := by
  intro h
  have := congrArg (fun n => n.testBit 31) h
  simp only [Nat.testBit_xor] at this
  rw [Nat.testBit_lt_two_pow ha, Nat.testBit_lt_two_pow hb] at this
  revert this
  decide
theorem crcStep_inj {c d : Nat} (hc : c < 2 ^ 32) (hd : d < 2 ^ 32) (h : crcStep c = crcStep d) : c = d := by
  unfold crcStep at h
  split at h <;> split at h
  · have := xor_cancel h; omega
  · exact absurd h (top_parts (by omega) (by omega))
  · exact absurd h.symm (top_parts (by omega) (by omega))
  · omega
theorem crcRun_inj {n c d : Nat} (hc : c < 2 ^ 32) (hd : d < 2 ^ 32) (h : crcRun n c = crcRun n d) : c = d := by
  induction n with
  | zero => exact h
  | succ n ih => exact ih (crcStep_inj (crcRun_lt hc) (crcRun_lt hd) h)
theorem crcFold_inj (l : List UInt8) {c d : Nat} (hc : c < 2 ^ 32) (hd : d < 2 ^ 32) (h : crcFold l c = crcFold l d) : c = d := by
  induction l generalizing c d with
  | nil => exact h
  | cons b l ih => exact xor_cancel (crcRun_inj (byte_lt b hc) (byte_lt b hd) (ih (crcRun_lt (byte_lt b hc)) (crcRun_lt (byte_lt b hd)) h))
/-- One byte other: another sum. -/
theorem crcOf_flip (p q : List UInt8) {b b' : UInt8} (hne : b ≠ b') : crcOf (p ++ b :: q) ≠ crcOf (p ++ b' :: q) := by
  intro h
  have h1 := xor_cancel h
  have e : ∀ x : UInt8, crcFold (p ++ x :: q) 4294967295 = crcFold q (crcRun 8 (crcFold p 4294967295 ^^^ x.toNat)) := fun x => by
    unfold crcFold; rw [List.foldl_append]; rfl
  have hp := crcFold_lt p (c := 4294967295) (by decide)
  rw [e, e] at h1
  have h2 := crcFold_inj q (crcRun_lt (byte_lt b hp)) (crcRun_lt (byte_lt b' hp)) h1
  have h3 := crcRun_inj (byte_lt b hp) (byte_lt b' hp) h2
  exact hne (UInt8.toNat_inj.1 (xor_cancel_left h3))

theorem i64_xor_nat (a b : Nat) (ha : a < 9223372036854775808) (hb : b < 9223372036854775808) : bits .xor .i64 (a : Int) (b : Int) = ((a ^^^ b : Nat) : Int) := by
  have hx : a ^^^ b < 2 ^ 63 := Nat.xor_lt_two_pow (by omega) (by omega)
  show IntKind.i64.wrap ((BitVec.ofInt 64 (a : Int) ^^^ BitVec.ofInt 64 (b : Int)).toNat : Int) = _
  rw [BitVec.toNat_xor, ofInt_u64 a (by omega), ofInt_u64 b (by omega)]
  simp only [IntKind.wrap, IntKind.bits, IntKind.signed]
  simp
  omega
end Go.Proofs.Ytofedboeggdkaaa
