/- Small lemmas on worlds that this seat's texts share; no condition. | The arguments of the laws opened: integers, strings, bytes, requests; no condition. | The checksum as a function on lists of bytes, and that one turned byte turns it: plain arithmetic, no program; no condition. | New blocks under names of their own: the world behind one to four allocations; blocks carried over calls; no condition. | Slices whose elements are rows of cells: what is known of one that came in, of one in a block of its own; the arguments that hold such slices opened; no condition. | Contracts of the functions on requests (in, ReqOk and their kin); no condition. | Contracts of the functions that copy a law's slices (toIntS, toEntS, toReqS), that weigh and that compare them; condition: at most 2^20 elements. | Contracts of toReqS and toEntS, that copy slices of structs of five integers; condition: at most 2^20 elements. | '==' and '!=' between two requests, as one test; no condition. | Contracts of okOrNull and allOk, with slices.ContainsFunc and IndexFunc at their closure; no condition. | Elements of slices read at their places; no condition. | Slices that the program made itself: their rows kept, cut, appended to, stored into; condition: small sizes. | Contracts of the functions that weigh (szXS) and compare (eqXS) slices of integers and of structs of five; eqXS: of two that are alike; no condition. | Contracts of toAhead, szAhead, eqAhead; condition: at most 2^20 elements. | Contracts of clone at lists of figures, of numbers, of asks; condition: small sizes. | Contracts of l8Copy, l2Copy, and of the program's copyOf; condition: small sizes. | Contract of l2Copy; condition: small sizes. | When a game is ok, as a plain function; no program; no condition. | What an ask does to a game, as a plain function; no program; no condition. | Regions that draw their order and whose callees lay blocks: contracts and blocks over every world of the class; no condition. | What asks do to a game, one behind the other, as plain functions; no program; no condition. | Contracts of l1Dec (decimals), l1Words, l1None, l1Put and the reference's ReqPut; condition: 64-bit numbers. | Contracts of l1Words, l1Put and the reference's ReqPut; condition: 64-bit numbers. | Contracts of l1None and of the reference's ReqPut; condition: 64-bit numbers far from the ends. | Contracts of the program's copyOf of clients and of games; condition: small sizes. -/
import Derived.Test.YtofedboeggdkaaaRows
import Derived.WalkKit
import Derived.WalkSpells
import Derived.WalkLawsBesides
import Derived.Lib.Hide
import Derived.Deep.RegionHeld3
import Derived.Deep.DeepCutAuto
import Derived.Outline
import Derived.ProofKit
import Derived.OpenShut
import Derived.ShutString
import Derived.Lib.SmallJoins
import Derived.Deep.Slices
import Derived.Deep.Fields
import Derived.LoopTactic
import Derived.Deep.AppendSrc
import Derived.Laws.AppendOwn
import Derived.OwnWalk
import Derived.Laws.Cover3
import Derived.Lib.QuietBelow
import Derived.BigQuiet
import Derived.Lib.ItoaNum
import Derived.Lib.ItoaLen
import Derived.Laws.BytesArg
set_option linter.unusedSimpArgs false
set_option linter.unusedVariables false
/-! Small lemmas on worlds that this seat's texts share; no condition. -/
namespace Go.Proofs.Ytofedboeggdkaaa
open Go.RowKit

theorem ret_bool {a b : Bool} (h : a = b) : Ending.returned (.bool a) = .returned (.bool b) := by rw [h]
theorem ret_int {k : IntKind} {a b : Int} (h : a = b) : Ending.returned (.int k a) = .returned (.int k b) := by rw [h]

/-- Old cells and old marks read as before. -/
theorem bcell {W w1 : World} (hb : Below W.heap.size W w1) : (∀ b o, b < W.heap.size → w1.cell? ⟨b, o, none⟩ = W.cell? ⟨b, o, none⟩) ∧ (∀ b o, b < W.heap.size → w1.frozen? ⟨b, o, none⟩ = W.frozen? ⟨b, o, none⟩) :=
  ⟨fun b o h => hb.cell (p := ⟨b, o, none⟩) h, fun b o h => hb.frozen (p := ⟨b, o, none⟩) h⟩

/-- From one call to the next. -/
theorem below_next {a b c : World} (h : Below a.heap.size a b) (k : Below b.heap.size b c) : Below a.heap.size a c := h.trans (k.mono h.size)

theorem below_drewN {B : Nat} {a w : World} (h : Below B a w) (n : Nat) : Below B a (w.drewN n) := ⟨h.os, h.tape, h.output, h.size, h.block⟩

/-! What go_region_held3 is told: below B the world is as W was. -/
theorem Kept.start {B : Nat} (W : World) : (∀ b o, b < B → W.drew.cell? ⟨b, o, none⟩ = W.cell? ⟨b, o, none⟩) ∧ Below W.heap.size W W.drew := ⟨fun _ _ _ => rfl, Below.drew (Below.refl _ _)⟩
theorem Kept.refl {B : Nat} (W : World) : (∀ b o, b < B → W.cell? ⟨b, o, none⟩ = W.cell? ⟨b, o, none⟩) ∧ Below W.heap.size W W := ⟨fun _ _ _ => rfl, Below.refl _ _⟩
theorem Kept.drew {B : Nat} {W w1 : World} (h : (∀ b o, b < B → w1.cell? ⟨b, o, none⟩ = W.cell? ⟨b, o, none⟩) ∧ Below W.heap.size W w1) :
    (∀ b o, b < B → w1.drew.cell? ⟨b, o, none⟩ = W.cell? ⟨b, o, none⟩) ∧ Below W.heap.size W w1.drew := ⟨h.1, h.2.drew⟩
theorem Kept.next {B : Nat} {W w1 w2 : World} (hB : B ≤ W.heap.size) (h : (∀ b o, b < B → w1.cell? ⟨b, o, none⟩ = W.cell? ⟨b, o, none⟩) ∧ Below W.heap.size W w1) (k : Below w1.heap.size w1 w2) :
    (∀ b o, b < B → w2.cell? ⟨b, o, none⟩ = W.cell? ⟨b, o, none⟩) ∧ Below W.heap.size W w2 :=
  ⟨fun b o hb => (k.cell (p := ⟨b, o, none⟩) (Nat.lt_of_lt_of_le hb (Nat.le_trans hB h.2.size))).trans (h.1 b o hb), below_next h.2 k⟩
theorem Kept.alloc {B : Nat} {W w1 : World} (hB : B ≤ W.heap.size) (x : Obj) (h : (∀ b o, b < B → w1.cell? ⟨b, o, none⟩ = W.cell? ⟨b, o, none⟩) ∧ Below W.heap.size W w1) :
    (∀ b o, b < B → (w1.alloc x).cell? ⟨b, o, none⟩ = W.cell? ⟨b, o, none⟩) ∧ Below W.heap.size W (w1.alloc x) :=
  Kept.next hB h ((Below.refl _ _).alloc (Nat.le_refl _) x)

/-! A request: five numbers. -/
structure Rq where
  c : Int
  n : Int
  o : Int
  x : Int
  y : Int
deriving DecidableEq

def Rq.v (r : Rq) : Value := .agg #[.int .i64 r.c, .int .i64 r.n, .int .i64 r.o, .int .i64 r.x, .int .i64 r.y]
def Rq.cs (r : Rq) : List Value := [.int .i64 r.c, .int .i64 r.n, .int .i64 r.o, .int .i64 r.x, .int .i64 r.y]

/-- lo ≤ n ≤ hi -/
def inB (n lo hi : Int) : Bool := decide (lo ≤ n) && decide (n ≤ hi)
theorem inB_iff (n lo hi : Int) : inB n lo hi = true ↔ lo ≤ n ∧ n ≤ hi := by simp [inB]
theorem inB_not (n lo hi : Int) : inB n lo hi = false ↔ n < lo ∨ hi < n := by
  rw [← Bool.not_eq_true, inB_iff]; omega

/-- A valid request. -/
def okB (c n o x y : Int) : Bool :=
  inB c 1 4 && inB n 1 30 &&
    (if o = 1 ∨ o = 3 then x == 0 && y == 0
     else if o = 2 then inB x (-1) 1 && inB y (-1) 1
     else if o = 4 then inB x 1 4 && y == 0
     else if o = 5 then inB x 1 4 && inB y 1 9
     else false)
end Go.Proofs.Ytofedboeggdkaaa

/-! The arguments of the laws opened: integers, strings, bytes, requests; no condition. -/
namespace Go.Proofs.Ytofedboeggdkaaa
open Go.WideShapes Go.ChangeAt Go.RowKit Go.Deep

/-- Five numbers in five cells. -/
def IsRq (v : Value) (r : Rq) : Prop := v = .agg #[.int .i64 r.c, .int .i64 r.n, .int .i64 r.o, .int .i64 r.x, .int .i64 r.y]

/-- Bytes that came in. -/
structure Bts where
  a : Option Addr
  len : Nat
  cap : Nat
def IsBytes (w : World) (v : Value) (z : Bts) : Prop :=
  v = .slice z.a z.len z.cap ∧ z.len ≤ z.cap ∧ z.cap ≤ maxLen ∧
    ∀ i, i < z.len → ∃ (b off : Nat) (x : Int), z.a = some ⟨b, off, none⟩ ∧ b < w.heap.size ∧ 0 ≤ x ∧ x ≤ 255 ∧ w.cell? ⟨b, off + i, none⟩ = some (.int .u8 x)

section
variable {H : Type} {P : Program} {enc : TypeId × Value → H} {w : World} {base b0 : Nat} {spare : Nat → Bool} {held : Bool} {r : Reach} {v : Value} {d : DataW H} {p : List MemPlace}

set_option maxRecDepth 100000 in
theorem open_string (hv : Value.okWide Try.prog w r b0 9 v) (h : DataW.Trod enc Try.prog w base spare held 9 v d p) : ∃ s : ByteArray, v = .string s := by
  obtain ⟨s, e, _⟩ := Go.ChangeMaps.open_string Try.underlying9 hv h
  exact ⟨s, e⟩
set_option maxRecDepth 100000 in
theorem open_int (hv : Value.okWide Try.prog w r b0 3 v) (h : DataW.Trod enc Try.prog w base spare held 3 v d p) : ∃ n : Int, v = .int .i64 n := by
  obtain ⟨n, e, _⟩ := Go.ChangeShapes.open_int Try.underlying3 hv h
  exact ⟨n, e⟩

theorem byte_wf {x : Int} (h : (Lit.int .u8 x).wf = true) : 0 ≤ x ∧ x ≤ 255 := by
  simp [Lit.wf, IntKind.min, IntKind.max, IntKind.signed, IntKind.bits] at h
  omega

theorem bytes_of {t e : TypeId} (ht : P.underlying t = some (.slice e)) (he : P.underlying e = some (.int .u8)) (hC : P.cellsOf e = 1)
    (hv : Value.okWide P w r b0 t v) (h : DataW.Trod enc P w base spare held t v d p) : ∃ z : Bts, IsBytes w v z := by
  obtain ⟨a, len, cap, rfl⟩ := okWide_slice ht hv
  obtain ⟨fuel, hf⟩ := h
  rcases Go.ChangeShapes.open_ints ht he hC hf with ⟨hcs, _⟩ | ⟨x, l, c, zs, hcs, _, hl, hm, hz, _, hcell, hwz⟩
  · simp [Value.cells] at hcs
    obtain ⟨rfl, rfl, rfl⟩ := hcs
    exact ⟨⟨none, 0, 0⟩, rfl, Nat.le_refl _, by simp [maxLen], fun i hi => absurd hi (Nat.not_lt_zero i)⟩
  · simp [Value.cells] at hcs
    obtain ⟨rfl, rfl, rfl⟩ := hcs
    refine ⟨⟨some x, len, cap⟩, rfl, hl, hm, fun i hi => ?_⟩
    have hlz : len ≤ zs.length := by rw [hz]; split <;> simp_all
    have hi : i < len := hi
    obtain ⟨b, off, rfl, hc⟩ := ints_at hcell (by omega)
    have hci := hc i (Nat.lt_of_lt_of_le hi hlz)
    refine ⟨b, off, zs.getD i 0, rfl, World.block_lt_of_cell? w _ hci, ?_, ?_, hci⟩
    · have hm : zs.getD i 0 ∈ zs := by
        rw [List.getD_eq_getElem?_getD, List.getElem?_eq_getElem (Nat.lt_of_lt_of_le hi hlz)]; simp
      exact (byte_wf (hwz _ hm)).1
    · have hm : zs.getD i 0 ∈ zs := by
        rw [List.getD_eq_getElem?_getD, List.getElem?_eq_getElem (Nat.lt_of_lt_of_le hi hlz)]; simp
      exact (byte_wf (hwz _ hm)).2

set_option maxRecDepth 100000 in
theorem open_bytes (hv : Value.okWide Try.prog w r b0 39 v) (h : DataW.Trod enc Try.prog w base spare held 39 v d p) : ∃ z : Bts, IsBytes w v z :=
  bytes_of Try.underlying39 Try.underlying5 (by kernel_rfl) hv h

theorem five_ints {t : TypeId} {cs : List Value} {fuel : Nat} {x : DataW H × List MemPlace} {f0 f1 f2 f3 f4 : Field}
    (hs : P.underlying t = some (.struct #[f0, f1, f2, f3, f4])) (hone : oneCellFields P #[f0, f1, f2, f3, f4] = true)
    (e0 : P.underlying f0.type = some (.int .i64)) (e1 : P.underlying f1.type = some (.int .i64)) (e2 : P.underlying f2.type = some (.int .i64)) (e3 : P.underlying f3.type = some (.int .i64)) (e4 : P.underlying f4.type = some (.int .i64))
    (hC : P.cellsOf t = 5) (h : DataW.trod enc P w base spare held fuel t cs = some x) :
    ∃ z : Rq, cs = z.cs := by
  obtain ⟨xs, n, _, _, hlc, hlen, hg⟩ := DataW.trod_struct hs h
  rw [hC] at hlc
  match cs, hlc with
  | [c0, c1, c2, c3, c4], _ =>
    obtain ⟨o0, k0⟩ := hone_of hone 0 f0 rfl
    obtain ⟨o1, k1⟩ := hone_of hone 1 f1 rfl
    obtain ⟨o2, k2⟩ := hone_of hone 2 f2 rfl
    obtain ⟨o3, k3⟩ := hone_of hone 3 f3 rfl
    obtain ⟨o4, k4⟩ := hone_of hone 4 f4 rfl
    match xs, hlen with
    | [y0, y1, y2, y3, y4], _ =>
      have g0 := hg 0 f0 rfl
      have g1 := hg 1 f1 rfl
      have g2 := hg 2 f2 rfl
      have g3 := hg 3 f3 rfl
      have g4 := hg 4 f4 rfl
      rw [o0, k0] at g0
      rw [o1, k1] at g1
      rw [o2, k2] at g2
      rw [o3, k3] at g3
      rw [o4, k4] at g4
      obtain ⟨a0, q0, _, _⟩ := DataW.trod_int e0 g0
      obtain ⟨a1, q1, _, _⟩ := DataW.trod_int e1 g1
      obtain ⟨a2, q2, _, _⟩ := DataW.trod_int e2 g2
      obtain ⟨a3, q3, _, _⟩ := DataW.trod_int e3 g3
      obtain ⟨a4, q4, _, _⟩ := DataW.trod_int e4 g4
      simp at q0 q1 q2 q3 q4
      subst q0 q1 q2 q3 q4
      exact ⟨⟨a0, a1, a2, a3, a4⟩, rfl⟩

set_option maxRecDepth 100000 in
theorem open_Req (hv : Value.okWide Try.prog w r b0 26 v) (h : DataW.Trod enc Try.prog w base spare held 26 v d p) : ∃ z : Rq, IsRq v z := by
  obtain ⟨cs, rfl, hsz⟩ := okWide_struct Try.underlying26 hv
  obtain ⟨fuel, hf⟩ := h
  obtain ⟨z, hz⟩ := five_ints Try.underlying26 (by kernel_rfl) (by kernel_rfl) (by kernel_rfl) (by kernel_rfl) (by kernel_rfl) (by kernel_rfl) (by kernel_rfl) hf
  refine ⟨z, ?_⟩
  obtain ⟨l⟩ := cs
  simp only [Value.cells] at hz
  simp only [IsRq, Rq.cs] at hz ⊢
  rw [hz]
end
end Go.Proofs.Ytofedboeggdkaaa

/-! The checksum as a function on lists of bytes, and that one turned byte turns it: plain arithmetic, no program; no condition. -/
namespace Go.Proofs.Ytofedboeggdkaaa
open Go.RowKit

def crcStep (c : Nat) : Nat := if c % 2 = 1 then (c / 2) ^^^ 3988292384 else c / 2
def crcRun : Nat → Nat → Nat
  | 0, c => c
  | n + 1, c => crcStep (crcRun n c)
def crcFold (l : List UInt8) (c : Nat) : Nat := l.foldl (fun c b => crcRun 8 (c ^^^ b.toNat)) c
def crcOf (l : List UInt8) : Nat := crcFold l 4294967295 ^^^ 4294967295

theorem crcStep_two (c : Nat) : (c % 2 = 1 ∧ crcStep c = (c / 2) ^^^ 3988292384) ∨ (c % 2 = 0 ∧ crcStep c = c / 2) := by
  unfold crcStep
  split
  · exact .inl ⟨‹_›, rfl⟩
  · exact .inr ⟨by omega, rfl⟩
theorem crcStep_lt {c : Nat} (h : c < 2 ^ 32) : crcStep c < 2 ^ 32 := by
  unfold crcStep
  split
  · exact Nat.xor_lt_two_pow (by omega) (by decide)
  · omega
theorem crcRun_lt {n c : Nat} (h : c < 2 ^ 32) : crcRun n c < 2 ^ 32 := by
  induction n with
  | zero => exact h
  | succ n ih => exact crcStep_lt ih
theorem byte_lt {c : Nat} (b : UInt8) (h : c < 2 ^ 32) : c ^^^ b.toNat < 2 ^ 32 := Nat.xor_lt_two_pow h (by have := b.toNat_lt; omega)
theorem crcFold_lt (l : List UInt8) {c : Nat} (h : c < 2 ^ 32) : crcFold l c < 2 ^ 32 := by
  induction l generalizing c with
  | nil => exact h
  | cons b l ih => exact ih (crcRun_lt (byte_lt b h))
theorem crcFold_snoc (l : List UInt8) (b : UInt8) (c : Nat) : crcFold (l ++ [b]) c = crcRun 8 (crcFold l c ^^^ b.toNat) := by
  unfold crcFold; rw [List.foldl_append]; rfl
theorem crcOf_lt (l : List UInt8) : crcOf l < 2 ^ 32 := Nat.xor_lt_two_pow (crcFold_lt l (by decide)) (by decide)

theorem xor_cancel {a b p : Nat} (h : a ^^^ p = b ^^^ p) : a = b := by
  have := congrArg (· ^^^ p) h
  simpa [Nat.xor_assoc] using this
theorem xor_cancel_left {a b p : Nat} (h : p ^^^ a = p ^^^ b) : a = b := by
  rw [Nat.xor_comm p a, Nat.xor_comm p b] at h; exact xor_cancel h
theorem top_parts {a b : Nat} (ha : a < 2 ^ 31) (hb : b < 2 ^ 31) : a ^^^ 3988292384 ≠ b := by
  intro h
  have := congrArg (fun n => n.testBit 31) h
  simp only [Nat.testBit_xor] at this
  rw [Nat.testBit_lt_two_pow ha, Nat.testBit_lt_two_pow hb] at this
  revert this
  decide
theorem crcStep_inj {c d : Nat} (hc : c < 2 ^ 32) (hd : d < 2 ^ 32) (h : crcStep c = crcStep d) : c = d := by
  unfold crcStep at h
  split at h <;> split at h
  · have := xor_cancel h; omega
  · exact absurd h (top_parts (by omega) (by omega))
  · exact absurd h.symm (top_parts (by omega) (by omega))
  · omega
theorem crcRun_inj {n c d : Nat} (hc : c < 2 ^ 32) (hd : d < 2 ^ 32) (h : crcRun n c = crcRun n d) : c = d := by
  induction n with
  | zero => exact h
  | succ n ih => exact ih (crcStep_inj (crcRun_lt hc) (crcRun_lt hd) h)
theorem crcFold_inj (l : List UInt8) {c d : Nat} (hc : c < 2 ^ 32) (hd : d < 2 ^ 32) (h : crcFold l c = crcFold l d) : c = d := by
  induction l generalizing c d with
  | nil => exact h
  | cons b l ih => exact xor_cancel (crcRun_inj (byte_lt b hc) (byte_lt b hd) (ih (crcRun_lt (byte_lt b hc)) (crcRun_lt (byte_lt b hd)) h))
/-- One byte other: another sum. -/
theorem crcOf_flip (p q : List UInt8) {b b' : UInt8} (hne : b ≠ b') : crcOf (p ++ b :: q) ≠ crcOf (p ++ b' :: q) := by
  intro h
  have h1 := xor_cancel h
  have e : ∀ x : UInt8, crcFold (p ++ x :: q) 4294967295 = crcFold q (crcRun 8 (crcFold p 4294967295 ^^^ x.toNat)) := fun x => by
    unfold crcFold; rw [List.foldl_append]; rfl
  have hp := crcFold_lt p (c := 4294967295) (by decide)
  rw [e, e] at h1
  have h2 := crcFold_inj q (crcRun_lt (byte_lt b hp)) (crcRun_lt (byte_lt b' hp)) h1
  have h3 := crcRun_inj (byte_lt b hp) (byte_lt b' hp) h2
  exact hne (UInt8.toNat_inj.1 (xor_cancel_left h3))

theorem i64_xor_nat (a b : Nat) (ha : a < 9223372036854775808) (hb : b < 9223372036854775808) : bits .xor .i64 (a : Int) (b : Int) = ((a ^^^ b : Nat) : Int) := by
  have hx : a ^^^ b < 2 ^ 63 := Nat.xor_lt_two_pow (by omega) (by omega)
  show IntKind.i64.wrap ((BitVec.ofInt 64 (a : Int) ^^^ BitVec.ofInt 64 (b : Int)).toNat : Int) = _
  rw [BitVec.toNat_xor, ofInt_u64 a (by omega), ofInt_u64 b (by omega)]
  simp only [IntKind.wrap, IntKind.bits, IntKind.signed]
  simp
  omega
end Go.Proofs.Ytofedboeggdkaaa

/-! New blocks under names of their own: the world behind one to four allocations; blocks carried over calls; no condition. -/
namespace Go.Proofs.Ytofedboeggdkaaa
open Go.RowKit Go.Joins

theorem blocks1 (w : World) (A : Obj) : ∃ W, W = w.alloc A ∧ W.heap.size = w.heap.size + 1 ∧ W.heap[w.heap.size]? = some A ∧ Below w.heap.size w W :=
  ⟨_, rfl, by simp, heap_alloc_new w A, (Below.refl _ _).alloc (Nat.le_refl _) _⟩
theorem blocks2 (w : World) (A B : Obj) : ∃ W, W = (w.alloc A).alloc B ∧ W.heap.size = w.heap.size + 2 ∧ W.heap[w.heap.size]? = some A ∧ W.heap[w.heap.size + 1]? = some B ∧ Below w.heap.size w W := by
  obtain ⟨W1, h1, s1, a1, k1⟩ := blocks1 w A
  obtain ⟨W2, h2, s2, a2, k2⟩ := blocks1 W1 B
  refine ⟨W2, by rw [h2, h1], by omega, ?_, by rw [← s1]; exact a2, k1.trans (k2.mono (by omega))⟩
  rw [k2.block _ (by omega)]; exact a1
theorem blocks3 (w : World) (A B C : Obj) : ∃ W, W = ((w.alloc A).alloc B).alloc C ∧ W.heap.size = w.heap.size + 3 ∧ W.heap[w.heap.size]? = some A ∧ W.heap[w.heap.size + 1]? = some B ∧ W.heap[w.heap.size + 2]? = some C ∧ Below w.heap.size w W := by
  obtain ⟨W1, h1, s1, a1, b1, k1⟩ := blocks2 w A B
  obtain ⟨W2, h2, s2, a2, k2⟩ := blocks1 W1 C
  refine ⟨W2, by rw [h2, h1], by omega, ?_, ?_, by rw [← s1]; exact a2, k1.trans (k2.mono (by omega))⟩
  · rw [k2.block _ (by omega)]; exact a1
  · rw [k2.block _ (by omega)]; exact b1
theorem blocks4 (w : World) (A B C D : Obj) : ∃ W, W = (((w.alloc A).alloc B).alloc C).alloc D ∧ W.heap.size = w.heap.size + 4 ∧ W.heap[w.heap.size]? = some A ∧ W.heap[w.heap.size + 1]? = some B ∧ W.heap[w.heap.size + 2]? = some C ∧ W.heap[w.heap.size + 3]? = some D ∧ Below w.heap.size w W := by
  obtain ⟨W1, h1, s1, a1, b1, c1, k1⟩ := blocks3 w A B C
  obtain ⟨W2, h2, s2, a2, k2⟩ := blocks1 W1 D
  refine ⟨W2, by rw [h2, h1], by omega, ?_, ?_, ?_, by rw [← s1]; exact a2, k1.trans (k2.mono (by omega))⟩
  · rw [k2.block _ (by omega)]; exact a1
  · rw [k2.block _ (by omega)]; exact b1
  · rw [k2.block _ (by omega)]; exact c1

/-- A block that was there is there still. -/
theorem carryB {W w1 : World} {B b : Nat} {o : Obj} (k : Below B W w1) (hb : b < B) (h : W.heap[b]? = some o) : w1.heap[b]? = some o := (k.block b hb).trans h

theorem IsBytes.below {w w' : World} {v : Value} {z : Bts} (h : IsBytes w v z) (k : Below w.heap.size w w') : IsBytes w' v z := by
  obtain ⟨h1, h2, h3, h4⟩ := h
  refine ⟨h1, h2, h3, fun i hi => ?_⟩
  obtain ⟨b, off, x, q1, q2, q3, q4, q5⟩ := h4 i hi
  exact ⟨b, off, x, q1, Nat.lt_of_lt_of_le q2 k.size, q3, q4, by rw [k.cell (p := ⟨b, off + i, none⟩) q2]; exact q5⟩
end Go.Proofs.Ytofedboeggdkaaa

/-! Slices whose elements are rows of cells: what is known of one that came in, of one in a block of its own; the arguments that hold such slices opened; no condition. -/
namespace Go.Proofs.Ytofedboeggdkaaa
open Go.WideShapes Go.ChangeAt Go.RowKit Go.Deep Go.Joins

/-- The element number i lies at its place, cell by cell. -/
def RowsAt {α : Type} (w : World) (a : Option Addr) (k : Nat) (R : α → List Value) (zs : List α) : Prop :=
  ∀ i (h : i < zs.length), ∃ b off, a = some ⟨b, off, none⟩ ∧ b < w.heap.size ∧ ∀ j, j < k → w.cell? ⟨b, off + i * k + j, none⟩ = (R zs[i])[j]?
/-- A slice of such elements. -/
def IsSl {α : Type} (w : World) (v : Value) (k : Nat) (R : α → List Value) (zs : List α) : Prop :=
  ∃ a cap, v = .slice a zs.length cap ∧ zs.length ≤ cap ∧ cap ≤ maxLen ∧ RowsAt w a k R zs
/-- The row of an integer. -/
def intR (n : Int) : List Value := [.int .i64 n]
/-- A block with the elements' cells, one behind the other. -/
def flat {α : Type} (R : α → List Value) (zs : List α) : Array Value := (zs.flatMap R).toArray

theorem RowsAt.below {α : Type} {w w' : World} {a : Option Addr} {k : Nat} {R : α → List Value} {zs : List α} (h : RowsAt w a k R zs) (hb : Below w.heap.size w w') : RowsAt w' a k R zs := by
  intro i hi
  obtain ⟨b, off, e, hlt, hc⟩ := h i hi
  exact ⟨b, off, e, Nat.lt_of_lt_of_le hlt hb.size, fun j hj => (hb.cell (p := ⟨b, _, none⟩) hlt).trans (hc j hj)⟩
theorem IsSl.below {α : Type} {w w' : World} {v : Value} {k : Nat} {R : α → List Value} {zs : List α} (h : IsSl w v k R zs) (hb : Below w.heap.size w w') : IsSl w' v k R zs := by
  obtain ⟨a, cap, e, h1, h2, h3⟩ := h
  exact ⟨a, cap, e, h1, h2, h3.below hb⟩

theorem flat_get {α : Type} {R : α → List Value} {k : Nat} (hR : ∀ z, (R z).length = k) : ∀ (zs : List α) (i : Nat) (h : i < zs.length) (j : Nat), j < k → (flat R zs)[i * k + j]? = (R zs[i])[j]? := by
  intro zs
  induction zs with
  | nil => intro i h; cases h
  | cons z zs ih =>
    intro i h j hj
    cases i with
    | zero =>
      simp only [flat, List.flatMap_cons, Nat.zero_mul, Nat.zero_add, List.getElem_cons_zero]
      rw [List.getElem?_toArray, List.getElem?_append_left (by rw [hR]; exact hj)]
    | succ i =>
      have := ih i (by simpa using h) j hj
      simp only [flat, List.flatMap_cons, List.getElem_cons_succ] at this ⊢
      rw [List.getElem?_toArray] at this ⊢
      rw [List.getElem?_append_right (by rw [hR, Nat.succ_mul]; omega), hR, ← this]
      congr 1
      rw [Nat.succ_mul]; omega
theorem flat_size {α : Type} {R : α → List Value} {k : Nat} (hR : ∀ z, (R z).length = k) (zs : List α) : (flat R zs).size = zs.length * k := by
  induction zs with
  | nil => simp [flat]
  | cons z zs ih =>
    simp only [flat, List.flatMap_cons, List.size_toArray, List.length_append, hR, List.length_cons] at ih ⊢
    rw [ih, Nat.succ_mul]; omega

/-- A block of its own is such a slice. -/
theorem rows_of_block {α : Type} {w : World} {B : Nat} {R : α → List Value} {k : Nat} {zs : List α} {t : TypeId} {fr : Nat × Nat} (hR : ∀ z, (R z).length = k) (h : w.heap[B]? = some (.cells (flat R zs) t fr)) :
    RowsAt w (some ⟨B, 0, none⟩) k R zs := by
  intro i hi
  refine ⟨B, 0, rfl, lt_of_block h, fun j hj => ?_⟩
  rw [cell_of_block h, Nat.zero_add]
  exact flat_get hR zs i hi j hj

section
variable {H : Type} {P : Program} {enc : TypeId × Value → H} {w : World} {base b0 : Nat} {spare : Nat → Bool} {held : Bool} {r : Reach} {v : Value} {d : DataW H} {p : List MemPlace}

theorem choose_list {α : Type} {n : Nat} {Q : Nat → α → Prop} (h : ∀ i, i < n → ∃ z, Q i z) : ∃ zs : List α, zs.length = n ∧ ∀ i (hi : i < zs.length), Q i zs[i] := by
  induction n with
  | zero => exact ⟨[], rfl, fun i hi => absurd hi (Nat.not_lt_zero i)⟩
  | succ n ih =>
    obtain ⟨zs, hl, hz⟩ := ih (fun i hi => h i (by omega))
    obtain ⟨z, hq⟩ := h n (by omega)
    refine ⟨zs ++ [z], by simp [hl], fun i hi => ?_⟩
    by_cases hin : i < zs.length
    · rw [List.getElem_append_left hin]; exact hz i hin
    · have : i = zs.length := by simp at hi; omega
      subst this
      simpa [hl] using hq

/-- A slice that came in, opened: its elements, each read by 'hel'. -/
theorem open_rows {α : Type} {t e : TypeId} {R : α → List Value} {k fuel : Nat} {c : Value} {x : DataW H × List MemPlace} (ht : P.underlying t = some (.slice e)) (hC : P.cellsOf e = k) (hk : 0 < k)
    (hel : ∀ n cs y, DataW.trod enc P w base spare held n e cs = some y → ∃ z : α, cs = R z) (h : DataW.trod enc P w base spare held fuel t [c] = some x) : ∃ zs : List α, IsSl w c k R zs := by
  rcases open_slice ht h with ⟨hcs, _⟩ | ⟨a, len, cap, m, n, D, Pl, hcs, _, hl, hm, hmm, _, hi⟩
  · simp at hcs
    subst hcs
    exact ⟨[], none, 0, rfl, Nat.le_refl _, by simp [maxLen], fun i hi => absurd hi (Nat.not_lt_zero i)⟩
  · simp at hcs
    subst hcs
    have hlm : len ≤ m := by rw [hmm]; split <;> omega
    obtain ⟨zs, hzl, hz⟩ := choose_list (α := α) (n := len) (Q := fun i z => w.cells? base (a.add (i * k)) k = some (R z)) (fun i hil => by
      obtain ⟨cs', hc, ht'⟩ := hi i (by omega)
      rw [hC] at hc
      obtain ⟨z, hz⟩ := hel _ _ _ ht'
      exact ⟨z, by rw [hc, hz]⟩)
    subst hzl
    refine ⟨zs, some a, cap, rfl, hl, hm, fun i hil => ?_⟩
    obtain ⟨_, hcl, hat⟩ := World.cells?_some (hz i hil)
    obtain ⟨b, off, spot⟩ := a
    have hspot : spot = none := by
      obtain ⟨_, hcl0, hat0⟩ := World.cells?_some (hz 0 (by omega))
      have h0 := hat0 0 hk
      rw [List.getElem?_eq_getElem (by omega)] at h0
      simpa [Addr.add] using World.cell?_spot h0
    subst hspot
    have hat' : ∀ j, j < k → w.cell? ⟨b, off + i * k + j, none⟩ = (R zs[i])[j]? := fun j hj => by
      have := hat j hj
      rwa [Go.WideShapes.add_plain, Go.WideShapes.add_plain] at this
    refine ⟨b, off, rfl, ?_, hat'⟩
    have h1 := hat' 0 hk
    rw [List.getElem?_eq_getElem (by omega)] at h1
    exact World.block_lt_of_cell? w _ h1

theorem int_el {e : TypeId} (he : P.underlying e = some (.int .i64)) (n : Nat) (cs : List Value) (y : DataW H × List MemPlace) (h : DataW.trod enc P w base spare held n e cs = some y) : ∃ z : Int, cs = intR z := by
  obtain ⟨a, q, _, _⟩ := DataW.trod_int he h
  exact ⟨a, q⟩

/-- A game that came in. -/
structure Gm where
  es : List Rq
  fl : List Int
  la : List Int
def IsGm (w : World) (v : Value) (g : Gm) : Prop := ∃ v0 v1 v2, v = .agg #[v0, v1, v2] ∧ IsSl w v0 5 Rq.cs g.es ∧ IsSl w v1 1 intR g.fl ∧ IsSl w v2 1 intR g.la
/-- A client that is ahead. -/
structure Ah where
  dn : List Rq
  wt : List Rq
  bk : Int
def IsAh (w : World) (v : Value) (g : Ah) : Prop := ∃ v0 v1, v = .agg #[v0, v1, .int .i64 g.bk] ∧ IsSl w v0 5 Rq.cs g.dn ∧ IsSl w v1 5 Rq.cs g.wt

theorem three_fields {t : TypeId} {f0 f1 f2 : Field} (hs : P.underlying t = some (.struct #[f0, f1, f2])) (hone : oneCellFields P #[f0, f1, f2] = true) (hC : P.cellsOf t = 3)
    (hv : Value.okWide P w r b0 t v) (h : DataW.Trod enc P w base spare held t v d p) :
    ∃ (v0 v1 v2 : Value) (y0 y1 y2 : DataW H × List MemPlace) (n : Nat), v = .agg #[v0, v1, v2] ∧ DataW.trod enc P w base spare held n f0.type [v0] = some y0 ∧ DataW.trod enc P w base spare held n f1.type [v1] = some y1 ∧ DataW.trod enc P w base spare held n f2.type [v2] = some y2 := by
  obtain ⟨cs, rfl, hsz⟩ := okWide_struct hs hv
  obtain ⟨l⟩ := cs
  match l, hsz.trans hC with
  | [c0, c1, c2], _ =>
    obtain ⟨fuel, hf⟩ := h
    obtain ⟨xs, n, _, _, _, hlen, hg⟩ := DataW.trod_struct hs hf
    obtain ⟨o0, k0⟩ := hone_of hone 0 f0 rfl
    obtain ⟨o1, k1⟩ := hone_of hone 1 f1 rfl
    obtain ⟨o2, k2⟩ := hone_of hone 2 f2 rfl
    match xs, hlen with
    | [y0, y1, y2], _ =>
      exact ⟨c0, c1, c2, y0, y1, y2, n, rfl, by simpa [Value.cells, o0, k0] using hg 0 f0 rfl, by simpa [Value.cells, o1, k1] using hg 1 f1 rfl, by simpa [Value.cells, o2, k2] using hg 2 f2 rfl⟩

set_option maxRecDepth 100000 in
theorem open_Game (hv : Value.okWide Try.prog w r b0 67 v) (h : DataW.Trod enc Try.prog w base spare held 67 v d p) : ∃ z : Gm, IsGm w v z := by
  obtain ⟨v0, v1, v2, y0, y1, y2, n, rfl, h0, h1, h2⟩ := three_fields Try.underlying67 (by kernel_rfl) (by kernel_rfl) hv h
  obtain ⟨es, he⟩ := open_rows (R := Rq.cs) (k := 5) Try.underlying65 (by kernel_rfl) (by decide) (fun n cs y hy => five_ints Try.underlying123 (by kernel_rfl) (by kernel_rfl) (by kernel_rfl) (by kernel_rfl) (by kernel_rfl) (by kernel_rfl) (by kernel_rfl) hy) h0
  obtain ⟨fl, hf⟩ := open_rows (R := intR) (k := 1) Try.underlying44 (by kernel_rfl) (by decide) (fun n cs y hy => int_el Try.underlying3 n cs y hy) h1
  obtain ⟨la, hl⟩ := open_rows (R := intR) (k := 1) Try.underlying44 (by kernel_rfl) (by decide) (fun n cs y hy => int_el Try.underlying3 n cs y hy) h2
  exact ⟨⟨es, fl, la⟩, v0, v1, v2, rfl, he, hf, hl⟩

set_option maxRecDepth 100000 in
theorem open_Ahead (hv : Value.okWide Try.prog w r b0 24 v) (h : DataW.Trod enc Try.prog w base spare held 24 v d p) : ∃ z : Ah, IsAh w v z := by
  obtain ⟨v0, v1, v2, y0, y1, y2, n, rfl, h0, h1, h2⟩ := three_fields Try.underlying24 (by kernel_rfl) (by kernel_rfl) hv h
  obtain ⟨dn, hd⟩ := open_rows (R := Rq.cs) (k := 5) Try.underlying22 (by kernel_rfl) (by decide) (fun n cs y hy => five_ints Try.underlying26 (by kernel_rfl) (by kernel_rfl) (by kernel_rfl) (by kernel_rfl) (by kernel_rfl) (by kernel_rfl) (by kernel_rfl) hy) h0
  obtain ⟨wt, hw⟩ := open_rows (R := Rq.cs) (k := 5) Try.underlying22 (by kernel_rfl) (by decide) (fun n cs y hy => five_ints Try.underlying26 (by kernel_rfl) (by kernel_rfl) (by kernel_rfl) (by kernel_rfl) (by kernel_rfl) (by kernel_rfl) (by kernel_rfl) hy) h1
  obtain ⟨bk, q, _, _⟩ := DataW.trod_int Try.underlying3 h2
  simp at q
  subst q
  exact ⟨⟨dn, wt, bk⟩, v0, v1, rfl, hd, hw⟩
end
end Go.Proofs.Ytofedboeggdkaaa

/-! Contracts of the functions on requests (in, ReqOk and their kin); no condition. -/
namespace Go.Proofs.Ytofedboeggdkaaa
open Go.RowKit

set_option maxHeartbeats 400000 in
theorem l1In_c (n lo hi : Int) (w : World) :
    Calls Try.prog 104 #[.int .i64 n, .int .i64 lo, .int .i64 hi] w fun e w' => e = .returned (.bool (inB n lo hi)) ∧ w = w' := by
  go_enter Try.func104, Try.ntmps104
  go_wp2
  · go_ret
    exact ⟨ret_bool (by have h : lo ≤ n := by assumption
                        simp [inB, h]), rfl⟩
  · go_ret
    exact ⟨ret_bool (by have h : n < lo := by assumption
                        have h' : ¬ lo ≤ n := by omega
                        simp [inB, h']), rfl⟩

set_option maxHeartbeats 400000 in
theorem in_c (n lo hi : Int) (w : World) :
    Calls Try.prog 81 #[.int .i64 n, .int .i64 lo, .int .i64 hi] w fun e w' => e = .returned (.bool (inB n lo hi)) ∧ w = w' := by
  go_enter Try.func81, Try.ntmps81
  go_wp2
  · go_ret
    exact ⟨ret_bool (by have h : lo ≤ n := by assumption
                        simp [inB, h]), rfl⟩
  · go_ret
    exact ⟨ret_bool (by have h : n < lo := by assumption
                        have h' : ¬ lo ≤ n := by omega
                        simp [inB, h']), rfl⟩

set_option maxHeartbeats 400000 in
theorem isClient_c (n : Int) (w : World) :
    Calls Try.prog 105 #[.int .i64 n] w fun e w' => e = .returned (.bool (inB n 1 4)) ∧ w = w' := by
  go_enter Try.func105, Try.ntmps105
  go_wp2_with (go_at_call 81; refine (in_c _ _ _ _).mono ?_; rintro e w' ⟨rfl, rfl⟩)
  go_ret
  exact ⟨rfl, rfl⟩

set_option maxHeartbeats 1000000 in
theorem l1Ok_c (c n o x y : Int) (w : World) :
    Calls Try.prog 63 #[.agg #[.int .i64 c, .int .i64 n, .int .i64 o, .int .i64 x, .int .i64 y]] w fun e w' => e = .returned (.bool (okB c n o x y)) ∧ Below w.heap.size w w' := by
  go_enter Try.func63, Try.ntmps63
  go_wp2_with (go_at_call 104; refine (l1In_c _ _ _ _).mono ?_; rintro e w' ⟨rfl, rfl⟩)
  all_goals go_ret
  all_goals refine ⟨ret_bool ?_, (by repeat' (first | with_reducible exact Below.refl _ _ | with_reducible assumption | with_reducible refine Below.alloc ?_ ?_ _ | with_reducible refine Below.drew ?_ | with_reducible refine Below.setCell ?_ ?_ _ | omega | (simp; omega) | (simp; done)))⟩
  all_goals simp_all [okB]

set_option maxHeartbeats 1000000 in
theorem ReqOk_c (c n o x y : Int) (w : World) :
    Calls Try.prog 66 #[.agg #[.int .i64 c, .int .i64 n, .int .i64 o, .int .i64 x, .int .i64 y]] w fun e w' => e = .returned (.bool (okB c n o x y)) ∧ Below w.heap.size w w' := by
  go_enter Try.func66, Try.ntmps66
  go_wp2_with (first
    | (go_at_call 81; refine (in_c _ _ _ _).mono ?_; rintro e w' ⟨rfl, rfl⟩)
    | (go_at_call 105; refine (isClient_c _ _).mono ?_; rintro e w' ⟨rfl, rfl⟩))
  all_goals go_ret
  all_goals refine ⟨ret_bool ?_, (by repeat' (first | with_reducible exact Below.refl _ _ | with_reducible assumption | with_reducible refine Below.alloc ?_ ?_ _ | with_reducible refine Below.drew ?_ | with_reducible refine Below.setCell ?_ ?_ _ | omega | (simp; omega) | (simp; done)))⟩
  all_goals simp_all [okB]

set_option maxHeartbeats 400000 in
theorem toReq_c (c n o x y : Int) (w : World) :
    Calls Try.prog 18 #[.agg #[.int .i64 c, .int .i64 n, .int .i64 o, .int .i64 x, .int .i64 y]] w fun e w' => e = .returned (.agg #[.int .i64 c, .int .i64 n, .int .i64 o, .int .i64 x, .int .i64 y]) ∧ Below w.heap.size w w' := by
  go_enter Try.func18, Try.ntmps18
  go_wp2
  refine bodyPost_ret (v := .agg #[.int .i64 c, .int .i64 n, .int .i64 o, .int .i64 x, .int .i64 y]) (by simp [results, Try.results18, go_sem]) rfl ?_
  exact ⟨rfl, (by repeat' (first | with_reducible exact Below.refl _ _ | with_reducible assumption | with_reducible refine Below.alloc ?_ ?_ _ | with_reducible refine Below.drew ?_ | with_reducible refine Below.setCell ?_ ?_ _ | omega | (simp; omega) | (simp; done)))⟩

set_option maxHeartbeats 1000000 in
theorem eqReq_c (c n o x y c' n' o' x' y' : Int) (w : World) :
    Calls Try.prog 108 #[.agg #[.int .i64 c, .int .i64 n, .int .i64 o, .int .i64 x, .int .i64 y], .agg #[.int .i64 c', .int .i64 n', .int .i64 o', .int .i64 x', .int .i64 y']] w fun e w' => e = .returned (.bool (c == c' && n == n' && o == o' && x == x' && y == y')) ∧ Below w.heap.size w w' := by
  go_enter Try.func108, Try.ntmps108
  go_wp2
  all_goals go_ret
  all_goals refine ⟨ret_bool ?_, (by repeat' (first | with_reducible exact Below.refl _ _ | with_reducible assumption | with_reducible refine Below.alloc ?_ ?_ _ | with_reducible refine Below.drew ?_ | with_reducible refine Below.setCell ?_ ?_ _ | omega | (simp; omega) | (simp; done)))⟩
  all_goals simp_all
end Go.Proofs.Ytofedboeggdkaaa

/-! Contracts of the functions that copy a law's slices (toIntS, toEntS, toReqS), that weigh and that compare them; condition: at most 2^20 elements. -/
namespace Go.Proofs.Ytofedboeggdkaaa
open Go.RowKit Go.Joins

theorem flat_int (zs : List Int) : flat intR zs = (zs.map (Value.int .i64)).toArray := by
  unfold flat
  congr 1
  induction zs with
  | nil => rfl
  | cons z zs ih => simp [List.flatMap_cons, intR] at ih ⊢; exact ih
theorem flat_int_set (zs : List Int) (i : Nat) (x : Int) : (flat intR zs).setIfInBounds i (.int .i64 x) = flat intR (zs.set i x) := by
  rw [flat_int, flat_int, List.setIfInBounds_toArray, List.map_set]
theorem made_int (n : Nat) : madeCells #[.int .i64 0] n = flat intR (List.replicate n 0) := by
  rw [flat_int]
  apply Array.ext
  · simp [madeCells]
  · intro i h1 h2
    simp [madeCells, Nat.mod_one]

/-- What is alike up to k, and k all: alike. -/
theorem alike_all {α : Type} {ys zs : List α} {k : Nat} (hl : ys.length = zs.length) (h : ∀ j, j < k → ys[j]? = zs[j]?) (hk : zs.length ≤ k) : ys = zs := by
  apply List.ext_getElem?
  intro i
  by_cases hi : i < k
  · exact h i hi
  · rw [List.getElem?_eq_none (by omega), List.getElem?_eq_none (by omega)]
theorem alike_next {α : Type} {ys zs : List α} {k : Nat} (hk : k < zs.length) (hl : ys.length = zs.length) (h : ∀ j, j < k → ys[j]? = zs[j]?) : ∀ j, j < k + 1 → (ys.set k zs[k])[j]? = zs[j]? := by
  intro j hj
  by_cases hjk : j = k
  · subst hjk
    rw [List.getElem?_set_self (by omega), List.getElem?_eq_getElem hk]
  · rw [List.getElem?_set_ne (by omega)]
    exact h j (by omega)

/-- What the copy gives. -/
def Copied {α : Type} (t : TypeId) (R : α → List Value) (zs : List α) (w : World) (e : Ending) (w' : World) : Prop :=
  e = .returned (.slice (some ⟨w.heap.size, 0, none⟩) zs.length zs.length) ∧ w'.heap[w.heap.size]? = some (.cells (flat R zs) t (0, 0)) ∧ Below w.heap.size w w'

theorem infoInt : (Try.prog.info? 3).map (fun i => (i.zero, i.size, i.bytes)) = some (some (.int .i64 0), 1, 8) := by kernel_rfl

theorem make_int (w : World) (n : Nat) (h : n ≤ 1048576) : (Instr.makeSlice 44 (.int .i64 (n : Int)) (.int .i64 (n : Int))).run Try.prog w = .ok (.slice (some ⟨w.heap.size, 0, none⟩) n n) (w.alloc (.cells (flat intR (List.replicate n 0)) 3)) := by
  obtain ⟨i0, hi, hz0, hz1, hz2⟩ := info_parts infoInt
  have := run_make (P := Try.prog) (w := w) 44 3 i0 (.int .i64 0) Try.underlying44 hi hz0 .i64 .i64 (n : Int) (n : Int) (by omega) (by omega) (by rw [hz2]; omega) (by omega)
  rw [hz1] at this
  rw [← made_int]
  simpa [Value.cells] using this

set_option maxHeartbeats 1000000 in
theorem toIntS_c (v : Value) (zs : List Int) (w : World) (h : IsSl w v 1 intR zs) (hn : zs.length ≤ 1048576) :
    Calls Try.prog 100 #[v] w (Copied 3 intR zs w) := by
  obtain ⟨a, cap, rfl, hlc, hm, hr⟩ := h
  have HR := Lib.hid hr
  clear hr
  unfold maxLen at hm
  generalize hnn : zs.length = n at *
  have hmk := make_int w n hn
  go_enter Try.func100, Try.ntmps100
  go_wp2
  obtain ⟨W, hW, sW, aW, kW⟩ := blocks1 w (.cells (flat intR (List.replicate n 0)) 3)
  rw [← hW]
  clear hW hmk
  go_loopw [4] (fun i wr => ∃ (k : Nat) (ys : List Int), k ≤ n ∧ i = .int .i64 k ∧ ys.length = zs.length ∧ (∀ j, j < k → ys[j]? = zs[j]?) ∧ wr.heap[w.heap.size]? = some (.cells (flat intR ys) 3 (0, 0)) ∧ Below w.heap.size w wr) (fun i _ => n - (intOf i).toNat)
  case atStart => exact ⟨0, List.replicate n 0, Nat.zero_le _, rfl, by simp [hnn], fun j hj => absurd hj (Nat.not_lt_zero j), aW, kW⟩
  case round =>
    obtain ⟨k, ys, hk, rfl, hl, hal, hB, hbel⟩ := hrel
    have hlB := lt_of_block hB
    by_cases hlt : k < n
    · have hkz : k < zs.length := by omega
      obtain ⟨b, off, rfl, hbl, hca⟩ := HR.out k hkz
      have hc0 : wr.cell? ⟨b, off + k, none⟩ = some (.int .i64 zs[k]) := by
        have h := hca 0 (by decide)
        rw [Nat.mul_one, Nat.add_zero] at h
        exact (hbel.cell (p := ⟨b, off + k, none⟩) hbl).trans h
      have hcB : wr.cell? ⟨w.heap.size, k, none⟩ = some (.int .i64 (ys.getD k 0)) := by
        rw [cell_of_block hB, flat_int]
        simp [show k < ys.length by omega]
      have hfB := unfrozen_of_block hB
      have hal' := alike_next hkz (by omega) hal
      have hB' := block_setCell (i := k) hB (.int .i64 zs[k])
      rw [flat_int_set] at hB'
      clear hca hB
      go_wp2
      go_roundw
      case rel => exact ⟨k + 1, ys.set k zs[k], by omega, by go_num, by simpa using hl, hal', hB', Below.setCell hbel (Nat.le_refl _) _⟩
      case measure => simp [intOf]; omega
    · have e := alike_all hl hal (by omega)
      subst e
      go_wp2
      go_ret
      unfold Copied
      rw [hnn]
      exact ⟨rfl, hB, hbel⟩

theorem five_len (z : Rq) : z.cs.length = 5 := rfl
theorem flat_five_set (zs : List Rq) (i : Nat) (h : i < zs.length) (r : Rq) :
    (((((flat Rq.cs zs).setIfInBounds (i * 5) (.int .i64 r.c)).setIfInBounds (i * 5 + 1) (.int .i64 r.n)).setIfInBounds (i * 5 + 2) (.int .i64 r.o)).setIfInBounds (i * 5 + 3) (.int .i64 r.x)).setIfInBounds (i * 5 + 4) (.int .i64 r.y) = flat Rq.cs (zs.set i r) := by
  unfold flat
  simp only [List.setIfInBounds_toArray]
  congr 1
  induction zs generalizing i with
  | nil => cases h
  | cons z zs ih =>
    cases i with
    | zero => simp [List.flatMap_cons, Rq.cs]
    | succ i =>
      have := ih i (by simpa using h)
      have e : ∀ j, (i + 1) * 5 + j = 5 + (i * 5 + j) := fun j => by omega
      have e0 : (i + 1) * 5 = 5 + i * 5 := by omega
      have ap : ∀ (l : List Value) (m : Nat) (v : Value), (z.cs ++ l).set (5 + m) v = z.cs ++ l.set m v := fun l m v => by
        rw [List.set_append_right _ _ (by rw [five_len]; omega), five_len]
        congr 2
        omega
      simp only [List.flatMap_cons, List.set_cons_succ]
      rw [e 1, e 2, e 3, e 4, e0, ap, ap, ap, ap, ap, this]
theorem made_five (n : Nat) : madeCells #[.int .i64 0, .int .i64 0, .int .i64 0, .int .i64 0, .int .i64 0] (n * 5) = flat Rq.cs (List.replicate n ⟨0, 0, 0, 0, 0⟩) := by
  apply Array.ext
  · rw [flat_size five_len]; simp [madeCells]
  · intro i h1 h2
    have hi : i < n * 5 := by simpa [madeCells] using h1
    have g := flat_get five_len (List.replicate n (⟨0, 0, 0, 0, 0⟩ : Rq)) (i / 5) (by simp; omega) (i % 5) (by omega)
    rw [show i / 5 * 5 + i % 5 = i by omega] at g
    have hm : i % 5 = 0 ∨ i % 5 = 1 ∨ i % 5 = 2 ∨ i % 5 = 3 ∨ i % 5 = 4 := by omega
    rw [Array.getElem?_eq_getElem h2] at g
    apply Option.some.inj
    rw [g]
    simp only [madeCells, Array.getElem_map, Array.getElem_range, List.getElem_replicate]
    rcases hm with h | h | h | h | h <;> (simp [h, Rq.cs])
end Go.Proofs.Ytofedboeggdkaaa

/-! Contracts of toReqS and toEntS, that copy slices of structs of five integers; condition: at most 2^20 elements. -/
namespace Go.Proofs.Ytofedboeggdkaaa
open Go.RowKit Go.Joins


theorem infoReq : (Try.prog.info? 34).map (fun i => (i.zero, i.size, i.bytes)) = some (some (.agg #[.int .i64 0, .int .i64 0, .int .i64 0, .int .i64 0, .int .i64 0]), 5, 40) := by kernel_rfl

theorem make_Req (w : World) (n : Nat) (h : n ≤ 1048576) : (Instr.makeSlice 28 (.int .i64 (n : Int)) (.int .i64 (n : Int))).run Try.prog w = .ok (.slice (some ⟨w.heap.size, 0, none⟩) n n) (w.alloc (.cells (flat Rq.cs (List.replicate n ⟨0, 0, 0, 0, 0⟩)) 34)) := by
  obtain ⟨i0, hi, hz0, hz1, hz2⟩ := info_parts infoReq
  have := run_make (P := Try.prog) (w := w) 28 34 i0 _ Try.underlying28 hi hz0 .i64 .i64 (n : Int) (n : Int) (by omega) (by omega) (by rw [hz2]; omega) (by omega)
  rw [hz1] at this
  rw [← made_five]
  simpa [Value.cells] using this

set_option maxRecDepth 100000 in
set_option maxHeartbeats 2000000 in
theorem toReqS_c (v : Value) (zs : List Rq) (w : World) (h : IsSl w v 5 Rq.cs zs) (hn : zs.length ≤ 1048576) :
    Calls Try.prog 64 #[v] w (Copied 34 Rq.cs zs w) := by
  obtain ⟨a, cap, rfl, hlc, hm, hr⟩ := h
  have HR := Lib.hid hr
  clear hr
  unfold maxLen at hm
  generalize hnn : zs.length = n at *
  have hmk := make_Req w n hn
  go_enter Try.func64, Try.ntmps64
  go_wp2_with fail
  obtain ⟨W, hW, sW, aW, kW⟩ := blocks1 w (.cells (flat Rq.cs (List.replicate n ⟨0, 0, 0, 0, 0⟩)) 34)
  rw [← hW]
  clear hW hmk
  go_loopw [4] (fun i wr => ∃ (k : Nat) (ys : List Rq), k ≤ n ∧ i = .int .i64 k ∧ ys.length = zs.length ∧ (∀ j, j < k → ys[j]? = zs[j]?) ∧ wr.heap[w.heap.size]? = some (.cells (flat Rq.cs ys) 34 (0, 0)) ∧ Below w.heap.size w wr) (fun i _ => n - (intOf i).toNat)
  case atStart => exact ⟨0, List.replicate n ⟨0, 0, 0, 0, 0⟩, Nat.zero_le _, rfl, by simp [hnn], fun j hj => absurd hj (Nat.not_lt_zero j), aW, kW⟩
  case round =>
    obtain ⟨k, ys, hk, rfl, hl, hal, hB, hbel⟩ := hrel
    have hlB := lt_of_block hB
    by_cases hlt : k < n
    · have hkz : k < zs.length := by omega
      obtain ⟨b, off, rfl, hbl, hca⟩ := HR.out k hkz
      have hc : ∀ j, j < 5 → wr.cell? ⟨b, off + k * 5 + j, none⟩ = zs[k].cs[j]? := fun j hj => (hbel.cell (p := ⟨b, off + k * 5 + j, none⟩) hbl).trans (hca j hj)
      have hal' := alike_next hkz (by omega) hal
      have hset := flat_five_set ys k (by omega) zs[k]
      clear hca
      generalize zs[k] = z at *
      have c0 : wr.cell? ⟨b, off + k * 5, none⟩ = some (.int .i64 z.c) := hc 0 (by decide)
      have c1 : wr.cell? ⟨b, off + k * 5 + 1, none⟩ = some (.int .i64 z.n) := hc 1 (by decide)
      have c2 : wr.cell? ⟨b, off + k * 5 + 2, none⟩ = some (.int .i64 z.o) := hc 2 (by decide)
      have c3 : wr.cell? ⟨b, off + k * 5 + 3, none⟩ = some (.int .i64 z.x) := hc 3 (by decide)
      have c4 : wr.cell? ⟨b, off + k * 5 + 4, none⟩ = some (.int .i64 z.y) := hc 4 (by decide)
      clear hc
      have HB := Lib.hid hB
      have HA := Lib.hid hal'
      clear hB hal hal'
      go_wp2_with fail
      refine (toReq_c z.c z.n z.o z.x z.y _).mono ?_
      rintro e w1 ⟨rfl, k1⟩
      have hbel1 := below_next hbel k1
      have hB1 := carryB k1 hlB HB.out
      have hky : k < ys.length := by omega
      have hd : ∀ j, j < 5 → w1.cell? ⟨w.heap.size, k * 5 + j, none⟩ = ys[k].cs[j]? := fun j hj => by
        rw [cell_of_block hB1]
        exact flat_get five_len ys k hky j hj
      generalize ys[k] = y at *
      have d0 : w1.cell? ⟨w.heap.size, k * 5, none⟩ = some (.int .i64 y.c) := hd 0 (by decide)
      have d1 : w1.cell? ⟨w.heap.size, k * 5 + 1, none⟩ = some (.int .i64 y.n) := hd 1 (by decide)
      have d2 : w1.cell? ⟨w.heap.size, k * 5 + 2, none⟩ = some (.int .i64 y.o) := hd 2 (by decide)
      have d3 : w1.cell? ⟨w.heap.size, k * 5 + 3, none⟩ = some (.int .i64 y.x) := hd 3 (by decide)
      have d4 : w1.cell? ⟨w.heap.size, k * 5 + 4, none⟩ = some (.int .i64 y.y) := hd 4 (by decide)
      have hf := unfrozen_of_block hB1
      have hB' := block_setCell (i := k * 5 + 4) (block_setCell (i := k * 5 + 3) (block_setCell (i := k * 5 + 2) (block_setCell (i := k * 5 + 1) (block_setCell (i := k * 5) hB1 (.int .i64 z.c)) (.int .i64 z.n)) (.int .i64 z.o)) (.int .i64 z.x)) (.int .i64 z.y)
      rw [hset] at hB'
      have HB' := Lib.hid hB'
      have hle : w.heap.size ≤ w.heap.size := Nat.le_refl _
      clear c0 c1 c2 c3 c4 hd hB' hB1 hset
      go_wp2_with fail
      go_roundw
      case rel => exact ⟨k + 1, ys.set k z, by omega, by go_num, by simpa using hl, HA.out, HB'.out, (by repeat' (first | with_reducible exact Below.refl _ _ | with_reducible assumption | with_reducible refine Below.alloc ?_ ?_ _ | with_reducible refine Below.drew ?_ | with_reducible refine Below.setCell ?_ ?_ _ | omega | (simp; omega) | (simp; done)))⟩
      case measure => simp [intOf]; omega
    · have e := alike_all hl hal (by omega)
      subst e
      go_wp2
      go_ret
      unfold Copied
      rw [hnn]
      exact ⟨rfl, hB, hbel⟩


set_option maxHeartbeats 400000 in
theorem toEnt_c (c n o x y : Int) (w : World) :
    Calls Try.prog 125 #[.agg #[.int .i64 c, .int .i64 n, .int .i64 o, .int .i64 x, .int .i64 y]] w fun e w' => e = .returned (.agg #[.int .i64 c, .int .i64 n, .int .i64 o, .int .i64 x, .int .i64 y]) ∧ Below w.heap.size w w' := by
  go_enter Try.func125, Try.ntmps125
  go_wp2
  refine bodyPost_ret (v := .agg #[.int .i64 c, .int .i64 n, .int .i64 o, .int .i64 x, .int .i64 y]) (by simp [results, Try.results125, go_sem]) rfl ?_
  exact ⟨rfl, (by repeat' (first | with_reducible exact Below.refl _ _ | with_reducible assumption | with_reducible refine Below.alloc ?_ ?_ _ | with_reducible refine Below.drew ?_ | with_reducible refine Below.setCell ?_ ?_ _ | omega | (simp; omega) | (simp; done)))⟩


theorem infoEnt : (Try.prog.info? 92).map (fun i => (i.zero, i.size, i.bytes)) = some (some (.agg #[.int .i64 0, .int .i64 0, .int .i64 0, .int .i64 0, .int .i64 0]), 5, 40) := by kernel_rfl

theorem make_Ent (w : World) (n : Nat) (h : n ≤ 1048576) : (Instr.makeSlice 43 (.int .i64 (n : Int)) (.int .i64 (n : Int))).run Try.prog w = .ok (.slice (some ⟨w.heap.size, 0, none⟩) n n) (w.alloc (.cells (flat Rq.cs (List.replicate n ⟨0, 0, 0, 0, 0⟩)) 92)) := by
  obtain ⟨i0, hi, hz0, hz1, hz2⟩ := info_parts infoEnt
  have := run_make (P := Try.prog) (w := w) 43 92 i0 _ Try.underlying43 hi hz0 .i64 .i64 (n : Int) (n : Int) (by omega) (by omega) (by rw [hz2]; omega) (by omega)
  rw [hz1] at this
  rw [← made_five]
  simpa [Value.cells] using this

set_option maxRecDepth 100000 in
set_option maxHeartbeats 2000000 in
theorem toEntS_c (v : Value) (zs : List Rq) (w : World) (h : IsSl w v 5 Rq.cs zs) (hn : zs.length ≤ 1048576) :
    Calls Try.prog 99 #[v] w (Copied 92 Rq.cs zs w) := by
  obtain ⟨a, cap, rfl, hlc, hm, hr⟩ := h
  have HR := Lib.hid hr
  clear hr
  unfold maxLen at hm
  generalize hnn : zs.length = n at *
  have hmk := make_Ent w n hn
  go_enter Try.func99, Try.ntmps99
  go_wp2_with fail
  obtain ⟨W, hW, sW, aW, kW⟩ := blocks1 w (.cells (flat Rq.cs (List.replicate n ⟨0, 0, 0, 0, 0⟩)) 92)
  rw [← hW]
  clear hW hmk
  go_loopw [4] (fun i wr => ∃ (k : Nat) (ys : List Rq), k ≤ n ∧ i = .int .i64 k ∧ ys.length = zs.length ∧ (∀ j, j < k → ys[j]? = zs[j]?) ∧ wr.heap[w.heap.size]? = some (.cells (flat Rq.cs ys) 92 (0, 0)) ∧ Below w.heap.size w wr) (fun i _ => n - (intOf i).toNat)
  case atStart => exact ⟨0, List.replicate n ⟨0, 0, 0, 0, 0⟩, Nat.zero_le _, rfl, by simp [hnn], fun j hj => absurd hj (Nat.not_lt_zero j), aW, kW⟩
  case round =>
    obtain ⟨k, ys, hk, rfl, hl, hal, hB, hbel⟩ := hrel
    have hlB := lt_of_block hB
    by_cases hlt : k < n
    · have hkz : k < zs.length := by omega
      obtain ⟨b, off, rfl, hbl, hca⟩ := HR.out k hkz
      have hc : ∀ j, j < 5 → wr.cell? ⟨b, off + k * 5 + j, none⟩ = zs[k].cs[j]? := fun j hj => (hbel.cell (p := ⟨b, off + k * 5 + j, none⟩) hbl).trans (hca j hj)
      have hal' := alike_next hkz (by omega) hal
      have hset := flat_five_set ys k (by omega) zs[k]
      clear hca
      generalize zs[k] = z at *
      have c0 : wr.cell? ⟨b, off + k * 5, none⟩ = some (.int .i64 z.c) := hc 0 (by decide)
      have c1 : wr.cell? ⟨b, off + k * 5 + 1, none⟩ = some (.int .i64 z.n) := hc 1 (by decide)
      have c2 : wr.cell? ⟨b, off + k * 5 + 2, none⟩ = some (.int .i64 z.o) := hc 2 (by decide)
      have c3 : wr.cell? ⟨b, off + k * 5 + 3, none⟩ = some (.int .i64 z.x) := hc 3 (by decide)
      have c4 : wr.cell? ⟨b, off + k * 5 + 4, none⟩ = some (.int .i64 z.y) := hc 4 (by decide)
      clear hc
      have HB := Lib.hid hB
      have HA := Lib.hid hal'
      clear hB hal hal'
      go_wp2_with fail
      refine (toEnt_c z.c z.n z.o z.x z.y _).mono ?_
      rintro e w1 ⟨rfl, k1⟩
      have hbel1 := below_next hbel k1
      have hB1 := carryB k1 hlB HB.out
      have hky : k < ys.length := by omega
      have hd : ∀ j, j < 5 → w1.cell? ⟨w.heap.size, k * 5 + j, none⟩ = ys[k].cs[j]? := fun j hj => by
        rw [cell_of_block hB1]
        exact flat_get five_len ys k hky j hj
      generalize ys[k] = y at *
      have d0 : w1.cell? ⟨w.heap.size, k * 5, none⟩ = some (.int .i64 y.c) := hd 0 (by decide)
      have d1 : w1.cell? ⟨w.heap.size, k * 5 + 1, none⟩ = some (.int .i64 y.n) := hd 1 (by decide)
      have d2 : w1.cell? ⟨w.heap.size, k * 5 + 2, none⟩ = some (.int .i64 y.o) := hd 2 (by decide)
      have d3 : w1.cell? ⟨w.heap.size, k * 5 + 3, none⟩ = some (.int .i64 y.x) := hd 3 (by decide)
      have d4 : w1.cell? ⟨w.heap.size, k * 5 + 4, none⟩ = some (.int .i64 y.y) := hd 4 (by decide)
      have hf := unfrozen_of_block hB1
      have hB' := block_setCell (i := k * 5 + 4) (block_setCell (i := k * 5 + 3) (block_setCell (i := k * 5 + 2) (block_setCell (i := k * 5 + 1) (block_setCell (i := k * 5) hB1 (.int .i64 z.c)) (.int .i64 z.n)) (.int .i64 z.o)) (.int .i64 z.x)) (.int .i64 z.y)
      rw [hset] at hB'
      have HB' := Lib.hid hB'
      have hle : w.heap.size ≤ w.heap.size := Nat.le_refl _
      clear c0 c1 c2 c3 c4 hd hB' hB1 hset
      go_wp2_with fail
      go_roundw
      case rel => exact ⟨k + 1, ys.set k z, by omega, by go_num, by simpa using hl, HA.out, HB'.out, (by repeat' (first | with_reducible exact Below.refl _ _ | with_reducible assumption | with_reducible refine Below.alloc ?_ ?_ _ | with_reducible refine Below.drew ?_ | with_reducible refine Below.setCell ?_ ?_ _ | omega | (simp; omega) | (simp; done)))⟩
      case measure => simp [intOf]; omega
    · have e := alike_all hl hal (by omega)
      subst e
      go_wp2
      go_ret
      unfold Copied
      rw [hnn]
      exact ⟨rfl, hB, hbel⟩

end Go.Proofs.Ytofedboeggdkaaa

/-! '==' and '!=' between two requests, as one test; no condition. -/
namespace Go.Proofs.Ytofedboeggdkaaa
open Go.RowKit

def eqR (c n o x y c' n' o' x' y' : Int) : Bool := c == c' && n == n' && o == o' && x == x' && y == y'

theorem Rq.eq_of {r s : Rq} (h1 : r.c = s.c) (h2 : r.n = s.n) (h3 : r.o = s.o) (h4 : r.x = s.x) (h5 : r.y = s.y) : r = s := by
  obtain ⟨c, n, o, x, y⟩ := r
  obtain ⟨c', n', o', x', y'⟩ := s
  simp only at h1 h2 h3 h4 h5
  subst h1 h2 h3 h4 h5
  rfl
theorem eqR_iff (r s : Rq) : eqR r.c r.n r.o r.x r.y s.c s.n s.o s.x s.y = true ↔ r = s := by
  unfold eqR
  constructor
  · intro h
    simp only [Bool.and_eq_true, beq_iff_eq] at h
    obtain ⟨⟨⟨⟨h1, h2⟩, h3⟩, h4⟩, h5⟩ := h
    exact Rq.eq_of h1 h2 h3 h4 h5
  · rintro rfl
    simp
theorem eqR_refl (c n o x y : Int) : eqR c n o x y c n o x y = true := by simp [eqR]
theorem eqR_ne {r s : Rq} (h : r ≠ s) : eqR r.c r.n r.o r.x r.y s.c s.n s.o s.x s.y = false := by
  rw [← Bool.not_eq_true, eqR_iff]; exact h
theorem eqR_comm (c n o x y c' n' o' x' y' : Int) : eqR c n o x y c' n' o' x' y' = eqR c' n' o' x' y' c n o x y := by
  unfold eqR
  rw [Bool.eq_iff_iff]
  simp only [Bool.and_eq_true, beq_iff_eq]
  constructor <;> (rintro ⟨⟨⟨⟨h1, h2⟩, h3⟩, h4⟩, h5⟩; exact ⟨⟨⟨⟨h1.symm, h2.symm⟩, h3.symm⟩, h4.symm⟩, h5.symm⟩)

theorem eql_rq (w : World) (c n o x y c' n' o' x' y' : Int) : (binOp .eql 34 (.agg #[.int .i64 c, .int .i64 n, .int .i64 o, .int .i64 x, .int .i64 y]) (.agg #[.int .i64 c', .int .i64 n', .int .i64 o', .int .i64 x', .int .i64 y'])).run Try.prog w = .ok (.bool (eqR c n o x y c' n' o' x' y')) w := by
  go_simp
  by_cases h1 : c = c' <;> by_cases h2 : n = n' <;> by_cases h3 : o = o' <;> by_cases h4 : x = x' <;> by_cases h5 : y = y' <;> simp [eqR, h1, h2, h3, h4, h5]
theorem neq_rq (w : World) (c n o x y c' n' o' x' y' : Int) : (binOp .neq 34 (.agg #[.int .i64 c, .int .i64 n, .int .i64 o, .int .i64 x, .int .i64 y]) (.agg #[.int .i64 c', .int .i64 n', .int .i64 o', .int .i64 x', .int .i64 y'])).run Try.prog w = .ok (.bool (!eqR c n o x y c' n' o' x' y')) w := by
  go_simp
  by_cases h1 : c = c' <;> by_cases h2 : n = n' <;> by_cases h3 : o = o' <;> by_cases h4 : x = x' <;> by_cases h5 : y = y' <;> simp [eqR, h1, h2, h3, h4, h5]
end Go.Proofs.Ytofedboeggdkaaa

/-! Contracts of okOrNull and allOk, with slices.ContainsFunc and IndexFunc at their closure; no condition. -/
namespace Go.Proofs.Ytofedboeggdkaaa
open Go.RowKit Go.Joins

attribute [local go_sem ↓] eql_rq neq_rq

/-- An ask that is ok, or none. -/
def goodB (c n o x y : Int) : Bool := eqR c n o x y 0 0 0 0 0 || okB c n o x y
def good (r : Rq) : Bool := goodB r.c r.n r.o r.x r.y

set_option maxHeartbeats 400000 in
theorem okOrNull_c (c n o x y : Int) (w : World) :
    Calls Try.prog 75 #[.agg #[.int .i64 c, .int .i64 n, .int .i64 o, .int .i64 x, .int .i64 y]] w fun e w' => e = .returned (.bool (goodB c n o x y)) ∧ Below w.heap.size w w' := by
  cases he : eqR c n o x y 0 0 0 0 0 with
  | true =>
    go_enter Try.func75, Try.ntmps75
    go_wp2_with fail
    go_ret
    exact ⟨ret_bool (by simp [goodB, he]), (by repeat' (first | with_reducible exact Below.refl _ _ | with_reducible assumption | with_reducible refine Below.alloc ?_ ?_ _ | with_reducible refine Below.drew ?_ | with_reducible refine Below.setCell ?_ ?_ _ | omega | (simp; omega) | (simp; done)))⟩
  | false =>
    go_enter Try.func75, Try.ntmps75
    go_wp2_with fail
    refine (ReqOk_c c n o x y _).mono ?_
    rintro e w1 ⟨rfl, k1⟩
    go_wp2_with fail
    go_ret
    exact ⟨ret_bool (by simp [goodB, he]), below_next (by repeat' (first | with_reducible exact Below.refl _ _ | with_reducible assumption | with_reducible refine Below.alloc ?_ ?_ _ | with_reducible refine Below.drew ?_ | with_reducible refine Below.setCell ?_ ?_ _ | omega | (simp; omega) | (simp; done))) k1⟩

set_option maxHeartbeats 400000 in
theorem notOk_c (c n o x y : Int) (w : World) :
    Calls Try.prog 111 #[.agg #[.int .i64 c, .int .i64 n, .int .i64 o, .int .i64 x, .int .i64 y]] w fun e w' => e = .returned (.bool (!goodB c n o x y)) ∧ Below w.heap.size w w' := by
  go_enter Try.func111, Try.ntmps111
  go_wp2_with fail
  refine (okOrNull_c c n o x y _).mono ?_
  rintro e w1 ⟨rfl, k1⟩
  go_wp2_with fail
  go_ret
  exact ⟨rfl, below_next (by repeat' (first | with_reducible exact Below.refl _ _ | with_reducible assumption | with_reducible refine Below.alloc ?_ ?_ _ | with_reducible refine Below.drew ?_ | with_reducible refine Below.setCell ?_ ?_ _ | omega | (simp; omega) | (simp; done))) k1⟩

/-- The place of the first that is not good; -1: all are. -/
def IsFirst (zs : List Rq) (w : World) (e : Ending) (w' : World) : Prop :=
  ∃ m : Int, e = .returned (.int .i64 m) ∧ ((zs.all good = true ∧ m < 0) ∨ (zs.all good = false ∧ 0 ≤ m)) ∧ Below w.heap.size w w'

set_option maxRecDepth 100000 in
set_option maxHeartbeats 1000000 in
theorem firstBad_c (a : Option Addr) (zs : List Rq) (n cap : Nat) (w : World) (h : IsSl w (.slice a n cap) 5 Rq.cs zs) (hn : zs.length = n) :
    Calls Try.prog 127 #[.slice a n cap, .func (.func 111) #[] #[]] w (IsFirst zs w) := by
  obtain ⟨a', cap', e, hlc, hm, hr⟩ := h
  simp only [Value.slice.injEq] at e
  obtain ⟨rfl, -, rfl⟩ := e
  have HR := Lib.hid hr
  clear hr
  unfold maxLen at hm
  go_enter Try.func127, Try.ntmps127
  go_wp2_with fail
  generalize hnn : zs.length = n at *
  go_loopw [8] (fun i wr => ∃ k : Nat, k ≤ n ∧ i = .int .i64 k ∧ (∀ j (hj : j < zs.length), j < k → good zs[j] = true) ∧ Below w.heap.size w wr) (fun i _ => n - (intOf i).toNat)
  case atStart => exact ⟨0, Nat.zero_le _, rfl, fun j _ hj => absurd hj (Nat.not_lt_zero j), Below.refl _ _⟩
  case round =>
    obtain ⟨k, hk, rfl, hall, hbel⟩ := hrel
    have HA := Lib.hid hall
    clear hall
    by_cases hlt : k < n
    · have hkz : k < zs.length := by omega
      have hk1 : (k : Int) < (n : Int) := by omega
      have hk0 : (0 : Int) ≤ (k : Int) := by omega
      obtain ⟨b0, o0, rfl, hl0, hc0⟩ := HR.out k hkz
      have c0 : wr.cell? ⟨b0, o0 + k * 5, none⟩ = some (.int .i64 zs[k].c) := (hbel.cell (p := ⟨b0, _, none⟩) hl0).trans (hc0 0 (by decide))
      have c1 : wr.cell? ⟨b0, o0 + k * 5 + 1, none⟩ = some (.int .i64 zs[k].n) := (hbel.cell (p := ⟨b0, _, none⟩) hl0).trans (hc0 1 (by decide))
      have c2 : wr.cell? ⟨b0, o0 + k * 5 + 2, none⟩ = some (.int .i64 zs[k].o) := (hbel.cell (p := ⟨b0, _, none⟩) hl0).trans (hc0 2 (by decide))
      have c3 : wr.cell? ⟨b0, o0 + k * 5 + 3, none⟩ = some (.int .i64 zs[k].x) := (hbel.cell (p := ⟨b0, _, none⟩) hl0).trans (hc0 3 (by decide))
      have c4 : wr.cell? ⟨b0, o0 + k * 5 + 4, none⟩ = some (.int .i64 zs[k].y) := (hbel.cell (p := ⟨b0, _, none⟩) hl0).trans (hc0 4 (by decide))
      clear hc0
      go_wp2_with fail
      refine (notOk_c zs[k].c zs[k].n zs[k].o zs[k].x zs[k].y _).mono ?_
      rintro e w1 ⟨rfl, k1⟩
      have hbel1 := below_next hbel k1
      clear c0 c1 c2 c3 c4 k1 hbel
      cases hg : goodB zs[k].c zs[k].n zs[k].o zs[k].x zs[k].y with
      | true =>
        go_wp2_with fail
        refine ⟨⟨k + 1, by omega, by go_num, fun j hj hjk => ?_, hbel1⟩, ?_⟩
        · by_cases hjk' : j = k
          · subst hjk'; exact hg
          · exact HA.out j hj (by omega)
        · simp [intOf]; omega
      | false =>
        go_wp2_with fail
        go_ret
        refine ⟨k, rfl, .inr ⟨?_, by omega⟩, hbel1⟩
        rw [← Bool.not_eq_true, List.all_eq_true]
        intro h
        have := h zs[k] (List.getElem_mem _)
        rw [show good zs[k] = false from hg] at this
        cases this
    · go_wp2_with fail
      go_ret
      refine ⟨-1, rfl, .inl ⟨?_, by omega⟩, hbel⟩
      rw [List.all_eq_true]
      intro z hz
      obtain ⟨j, hj, rfl⟩ := List.getElem_of_mem hz
      exact HA.out j hj (by omega)

set_option maxHeartbeats 400000 in
theorem allOk_c (a : Option Addr) (zs : List Rq) (n cap : Nat) (w : World) (h : IsSl w (.slice a n cap) 5 Rq.cs zs) (hn : zs.length = n) :
    Calls Try.prog 80 #[.slice a n cap] w fun e w' => e = .returned (.bool (zs.all good)) ∧ Below w.heap.size w w' := by
  have HI := Lib.hid (firstBad_c a zs n cap w h hn)
  clear h
  have HC : Hid (Calls Try.prog 110 #[.slice a n cap, .func (.func 111) #[] #[]] w fun e w' => e = .returned (.bool (!zs.all good)) ∧ Below w.heap.size w w') := by
    show Calls _ _ _ _ _
    go_enter Try.func110, Try.ntmps110
    go_wp2_with fail
    refine HI.out.mono ?_
    rintro e w1 ⟨m, rfl, hm, k1⟩
    rcases hm with ⟨ha, hm⟩ | ⟨ha, hm⟩
    · go_wp2_with fail
      go_ret
      exact ⟨ret_bool (by rw [ha]; simp; omega), k1⟩
    · go_wp2_with fail
      go_ret
      exact ⟨ret_bool (by rw [ha]; simp), k1⟩
  go_enter Try.func80, Try.ntmps80
  go_wp2_with fail
  refine HC.out.mono ?_
  rintro e w1 ⟨rfl, k1⟩
  go_wp2_with fail
  go_ret
  exact ⟨ret_bool (by simp), k1⟩
end Go.Proofs.Ytofedboeggdkaaa

/-! Elements of slices read at their places; no condition. -/
namespace Go.Proofs.Ytofedboeggdkaaa
open Go.RowKit Go.Joins

theorem IsSl.bounds {α : Type} {w : World} {a : Option Addr} {n cap k : Nat} {R : α → List Value} {zs : List α} (h : IsSl w (.slice a n cap) k R zs) : zs.length = n ∧ n ≤ cap ∧ cap ≤ maxLen ∧ RowsAt w a k R zs := by
  obtain ⟨_, _, e, hl, hm, hr⟩ := h
  simp only [Value.slice.injEq] at e
  obtain ⟨rfl, rfl, rfl⟩ := e
  exact ⟨rfl, hl, hm, hr⟩
theorem five_at {w : World} {a : Option Addr} {zs : List Rq} (h : RowsAt w a 5 Rq.cs zs) (k : Nat) (hk : k < zs.length) :
    ∃ b off, a = some ⟨b, off, none⟩ ∧ b < w.heap.size ∧ ∀ wr, Below w.heap.size w wr → wr.cell? ⟨b, off + k * 5, none⟩ = some (.int .i64 zs[k].c) ∧ wr.cell? ⟨b, off + k * 5 + 1, none⟩ = some (.int .i64 zs[k].n) ∧
      wr.cell? ⟨b, off + k * 5 + 2, none⟩ = some (.int .i64 zs[k].o) ∧ wr.cell? ⟨b, off + k * 5 + 3, none⟩ = some (.int .i64 zs[k].x) ∧ wr.cell? ⟨b, off + k * 5 + 4, none⟩ = some (.int .i64 zs[k].y) := by
  obtain ⟨b, off, rfl, hb, hc⟩ := h k hk
  refine ⟨b, off, rfl, hb, fun wr hbel => ?_⟩
  have g : ∀ j, j < 5 → wr.cell? ⟨b, off + k * 5 + j, none⟩ = zs[k].cs[j]? := fun j hj => (hbel.cell (p := ⟨b, _, none⟩) hb).trans (hc j hj)
  exact ⟨g 0 (by decide), g 1 (by decide), g 2 (by decide), g 3 (by decide), g 4 (by decide)⟩
theorem one_at {w : World} {a : Option Addr} {zs : List Int} (h : RowsAt w a 1 intR zs) (k : Nat) (hk : k < zs.length) :
    ∃ b off, a = some ⟨b, off, none⟩ ∧ b < w.heap.size ∧ ∀ wr, Below w.heap.size w wr → wr.cell? ⟨b, off + k, none⟩ = some (.int .i64 zs[k]) := by
  obtain ⟨b, off, rfl, hb, hc⟩ := h k hk
  refine ⟨b, off, rfl, hb, fun wr hbel => ?_⟩
  have h := (hbel.cell (p := ⟨b, _, none⟩) hb).trans (hc 0 (by decide))
  rwa [Nat.mul_one, Nat.add_zero] at h
end Go.Proofs.Ytofedboeggdkaaa

/-! Slices that the program made itself: their rows kept, cut, appended to, stored into; condition: small sizes. -/
namespace Go.Proofs.Ytofedboeggdkaaa
open Go.RowKit Go.Joins

/-- The block of a slice that has room. -/
def rowBlk (a : Option Addr) (cap : Nat) : Option Nat := if cap = 0 then none else a.map (·.block)
/-- A slice of the program's own, in a block from B on; one without room may lie anywhere. -/
structure Row {α : Type} (w : World) (B : Nat) (e : TypeId) (a : Option Addr) (cap k : Nat) (R : α → List Value) (zs : List α) : Prop where
  len : zs.length ≤ cap
  max : cap ≤ maxLen
  own : 0 < cap → ∃ g cur, a = some ⟨g, 0, none⟩ ∧ B ≤ g ∧ w.heap[g]? = some (.cells cur e (0, 0)) ∧ cap * k ≤ cur.size ∧ ∀ j, j < zs.length * k → cur[j]? = (flat R zs)[j]?

section
variable {α : Type} {w w' : World} {B : Nat} {e : TypeId} {a : Option Addr} {cap k : Nat} {R : α → List Value} {zs : List α}

theorem Row.nil (w : World) (B : Nat) (e : TypeId) (a : Option Addr) (k : Nat) (R : α → List Value) : Row w B e a 0 k R [] :=
  ⟨Nat.le_refl _, Nat.zero_le _, fun h => absurd h (Nat.lt_irrefl 0)⟩
theorem Row.low {B' : Nat} (h : Row w B e a cap k R zs) (hB : B' ≤ B) : Row w B' e a cap k R zs :=
  ⟨h.len, h.max, fun hp => by obtain ⟨g, cur, h1, h2, h3⟩ := h.own hp; exact ⟨g, cur, h1, Nat.le_trans hB h2, h3⟩⟩
theorem Row.clip (h : Row w B e a cap k R zs) : Row w B e a zs.length k R zs :=
  ⟨Nat.le_refl _, Nat.le_trans h.len h.max, fun hp => by
    obtain ⟨g, cur, h1, h2, h3, h4, h5⟩ := h.own (Nat.lt_of_lt_of_le hp h.len)
    exact ⟨g, cur, h1, h2, h3, Nat.le_trans (Nat.mul_le_mul_right k h.len) h4, h5⟩⟩
theorem Row.blk (h : Row w B e a cap k R zs) {g : Nat} (hg : rowBlk a cap = some g) : B ≤ g ∧ g < w.heap.size := by
  unfold rowBlk at hg
  split at hg
  · cases hg
  · obtain ⟨g', cur, rfl, h2, h3, _⟩ := h.own (by omega)
    simp at hg
    subst hg
    exact ⟨h2, lt_of_block h3⟩
theorem Row.kept {row : Option Nat} (h : Row w B e a cap k R zs) (hg : w.grownBy w' row) (hne : ∀ g, rowBlk a cap = some g → row ≠ some g) : Row w' B e a cap k R zs :=
  ⟨h.len, h.max, fun hp => by
    obtain ⟨g, cur, rfl, h2, h3, h4⟩ := h.own hp
    refine ⟨g, cur, rfl, h2, ?_, h4⟩
    rw [hg.block g (lt_of_block h3) (fun e => hne g (by simp [rowBlk]; omega) e.symm)]
    exact h3⟩
theorem Row.below (h : Row w B e a cap k R zs) (hb : Below w.heap.size w w') : Row w' B e a cap k R zs :=
  ⟨h.len, h.max, fun hp => by
    obtain ⟨g, cur, rfl, h2, h3, h4⟩ := h.own hp
    exact ⟨g, cur, rfl, h2, (hb.block g (lt_of_block h3)).trans h3, h4⟩⟩
theorem Row.rows (h : Row w B e a cap k R zs) (hR : ∀ z, (R z).length = k) : RowsAt w a k R zs := by
  intro i hi
  obtain ⟨g, cur, rfl, h2, h3, h4, h5⟩ := h.own (Nat.lt_of_lt_of_le (Nat.lt_of_le_of_lt (Nat.zero_le _) hi) h.len)
  refine ⟨g, 0, rfl, lt_of_block h3, fun j hj => ?_⟩
  have hlt : i * k + j < zs.length * k := by
    have h1 : (i + 1) * k ≤ zs.length * k := Nat.mul_le_mul_right k hi
    rw [Nat.succ_mul] at h1
    omega
  rw [cell_of_block h3, Nat.zero_add, h5 _ hlt]
  exact flat_get hR zs i hi j hj
theorem Row.sl (h : Row w B e a cap k R zs) (hR : ∀ z, (R z).length = k) : IsSl w (.slice a zs.length cap) k R zs :=
  ⟨a, cap, rfl, h.len, h.max, h.rows hR⟩

theorem flat_append (R : α → List Value) (xs ys : List α) : flat R (xs ++ ys) = flat R xs ++ flat R ys := by
  simp [flat, List.flatMap_append]
theorem flat_mem_one {R : α → List Value} (h1 : ∀ z, ∀ u ∈ R z, u.oneCell' = true) (zs : List α) : ∀ u ∈ zs.flatMap R, u.oneCell' = true := by
  intro u hu
  obtain ⟨z, _, hz⟩ := List.mem_flatMap.1 hu
  exact h1 z u hz
theorem flatMap_length {R : α → List Value} (hR : ∀ z, (R z).length = k) (zs : List α) : (zs.flatMap R).length = zs.length * k := by
  have := flat_size hR zs
  simpa [flat] using this

theorem RowsAt.news {ys : List α} {ad : Addr} (hR : ∀ z, (R z).length = k) (h0 : 0 < k) (h : RowsAt w (some ad) k R ys) : ∀ j u, (ys.flatMap R)[j]? = some u → w.cell? (ad.add j) = some u := by
  intro j u hu
  have hj : j < ys.length * k := by
    rw [← flatMap_length hR ys]
    exact (List.getElem?_eq_some_iff.1 hu).1
  have hi : j / k < ys.length := by
    rw [Nat.div_lt_iff_lt_mul h0]; exact hj
  obtain ⟨b, off, q, _, hc⟩ := h (j / k) hi
  injection q with q
  subst q
  have hm := Nat.mod_lt j h0
  have h2 := hc (j % k) hm
  have h3 := flat_get hR ys (j / k) hi (j % k) hm
  have hdm : j / k * k + j % k = j := by rw [Nat.mul_comm]; exact Nat.div_add_mod j k
  rw [hdm] at h3
  rw [Nat.add_assoc, hdm] at h2
  rw [Go.WideShapes.add_plain, h2, ← h3]
  simpa [flat] using hu
theorem RowsAt.none_nil {ys : List α} (h : RowsAt w none k R ys) : ys = [] := by
  cases ys with
  | nil => rfl
  | cons y ys =>
    obtain ⟨_, _, q, _⟩ := h 0 (by simp)
    cases q
theorem RowsAt.src {P : Program} {tx e' : TypeId} {ys : List α} {ay : Option Addr} {cy : Nat} (hk : P.underlying tx = some (.slice e')) (hR : ∀ z, (R z).length = k) (h0 : 0 < k) (h1 : ∀ z, ∀ u ∈ R z, u.oneCell' = true) (h : RowsAt w ay k R ys) :
    Src P k tx (.slice ay ys.length cy) ys.length (ys.flatMap R) w := by
  cases ay with
  | none =>
    have h0 := h.none_nil
    subst h0
    exact Src.ofNil w hk cy
  | some ad => exact Src.ofSlice w hk ad ys.length cy _ (flatMap_length hR ys) (h.news hR h0) (flat_mem_one h1 ys)
theorem RowsAt.firsts {P : Program} {ys : List α} {ay : Option Addr} {cy : Nat} (hR : ∀ z, (R z).length = k) (h0 : 0 < k) (h : RowsAt w ay k R ys) : (Builtin.firstCells k ys.length (.slice ay ys.length cy)).run P w = .ok (ys.flatMap R).toArray w := by
  cases ay with
  | none =>
    have h0 := h.none_nil
    subst h0
    exact run_firstCells_none w k 0 0 cy
  | some ad => exact run_firstCells_some w k ys.length ad ys.length cy _ (flatMap_length hR ys) (h.news hR h0)

/-- append to such a slice. -/
theorem run_append_row {P : Program} {t tx ty e' : TypeId} {i : TypeInfo} {z : Value} {bytes : Nat} (ht : P.underlying t = some (.slice e)) (htx : P.underlying tx = some (.slice e')) (hi : P.info? e = some i) (hz : i.zero = some z)
    (hsize : i.size = k) (hby : i.bytes = bytes) (hzs : z.cells.size = k) (h0 : 0 < k) (hR : ∀ z, (R z).length = k) (h1 : ∀ z, ∀ u ∈ R z, u.oneCell' = true)
    (hrow : Row w B e a cap k R zs) {ys : List α} {ay : Option Addr} {cy : Nat} (hys : RowsAt w ay k R ys) (h63 : zs.length + ys.length ≤ maxLen) (hbytes : (zs.length + ys.length) * bytes ≤ 140737488355328) (hB : B ≤ w.heap.size) :
    ∃ a' cap' w', (Builtin.append_ #[t, tx] ty #[.slice a zs.length cap, .slice ay ys.length cy]).run P w = .ok (.slice a' (zs.length + ys.length) cap') w' ∧ Row w' B e a' cap' k R (zs ++ ys) ∧ w.grownBy w' (rowBlk a cap) ∧
      (rowBlk a' cap' = rowBlk a cap ∨ rowBlk a' cap' = some w.heap.size) ∧ (zs.length + ys.length ≤ cap → a' = a ∧ cap' = cap) := by
  subst hsize hby
  have hs := RowsAt.src (P := P) (w := w) (cy := cy) htx hR h0 h1 hys
  have hlz := flatMap_length hR zs
  have hly := flatMap_length hR ys
  have hsmall : zs.length + ys.length ≤ 9223372036854775807 := by simp only [maxLen] at h63; omega
  by_cases hroom : zs.length + ys.length ≤ cap
  · by_cases hc0 : cap = 0
    · subst hc0
      have e1 : zs = [] := List.eq_nil_of_length_eq_zero (by omega)
      have e2 : ys = [] := List.eq_nil_of_length_eq_zero (by omega)
      subst e1 e2
      refine ⟨a, 0, w, ?_, Row.nil w B e a i.size R, World.grownBy.refl w _, .inl rfl, fun _ => ⟨rfl, rfl⟩⟩
      have hl := hs.len
      have hcl := hs.cells
      simp only [List.flatMap_nil, List.length_nil] at hl hcl ⊢
      cases a with
      | none => simp [Builtin.append_, run_underlying ht, run_underlying htx, sizeOf, typeInfo, hi, hl, hcl]
      | some ad => simp [Builtin.append_, run_underlying ht, run_underlying htx, sizeOf, typeInfo, hi, hl, hcl, storeCells]
    · obtain ⟨g, cur, rfl, hBg, hg, hcs, hcur⟩ := hrow.own (by omega)
      have hb : rowBlk (some ⟨g, 0, none⟩) cap = some g := by simp [rowBlk, hc0]
      cases ay with
      | none =>
        have e2 := hys.none_nil
        subst e2
        refine ⟨some ⟨g, 0, none⟩, cap, w, ?_, by rw [List.append_nil]; exact hrow, World.grownBy.refl w _, .inl rfl, fun _ => ⟨rfl, rfl⟩⟩
        have hl := hs.len
        have hcl := hs.cells
        simp only [List.flatMap_nil, List.length_nil, Nat.add_zero] at hl hcl hroom ⊢
        simp [Builtin.append_, run_underlying ht, run_underlying htx, sizeOf, typeInfo, hi, hl, hcl, hroom, storeCells]
      | some ad =>
        have hfit : zs.length * i.size + (ys.flatMap R).length ≤ cur.size := by rw [hly, ← Nat.add_mul]; exact Nat.le_trans (Nat.mul_le_mul_right _ hroom) hcs
        have hst := run_storeCells_at P g (zs.length * i.size) e (ys.flatMap R) 0 cur w hg (by simpa using hfit) (flat_mem_one h1 ys)
        simp only [Nat.add_zero] at hst
        have hl := hs.len
        have hcl := hs.cells
        refine ⟨some ⟨g, 0, none⟩, cap, w.setRow g (cur.toList.take (zs.length * i.size) ++ ys.flatMap R ++ cur.toList.drop (zs.length * i.size + (ys.flatMap R).length)).toArray, ?_, ⟨by rw [List.length_append]; exact hroom, hrow.max, fun _ => ⟨g, _, rfl, hBg, setRow_heap w g cur _ e _ hg, ?_, ?_⟩⟩, ⟨rfl, rfl, rfl, by simp [World.setRow], fun b _ hne => setRow_other w g b _ (fun e => hne (by rw [hb, e]))⟩, .inl rfl, fun _ => ⟨rfl, rfl⟩⟩
        · simp [Builtin.append_, run_underlying ht, run_underlying htx, sizeOf, typeInfo, hi, hl, hcl, hroom, Addr.add_lit, hst]
        · simp only [List.size_toArray, List.length_append, List.length_take, List.length_drop, Array.length_toList]
          rw [Nat.min_eq_left (by omega)]
          omega
        · intro j hj
          have htk : (cur.toList.take (zs.length * i.size)).length = zs.length * i.size := by
            simp only [List.length_take, Array.length_toList]; omega
          rw [List.length_append, Nat.add_mul] at hj
          rw [List.getElem?_toArray, flat_append, List.append_assoc]
          by_cases hjz : j < zs.length * i.size
          · rw [List.getElem?_append_left (by rw [htk]; exact hjz), List.getElem?_take_of_lt hjz, Array.getElem?_append_left (by rw [flat_size hR]; exact hjz), ← hcur j hjz, Array.getElem?_toList]
          · rw [List.getElem?_append_right (by rw [htk]; omega), htk, List.getElem?_append_left (by omega), Array.getElem?_append_right (by rw [flat_size hR]; omega), flat_size hR]
            simp [flat]
  · have hr := run_append_grow_src (P := P) w t tx ty e i z ht hi hz a zs.length cap (zs.flatMap R) (by
      have hw : RowsAt w.drew a i.size R zs := hrow.rows hR
      exact hw.firsts (P := P) (cy := cap) hR h0) (.slice ay ys.length cy) ys.length (ys.flatMap R) hs (by omega) (by omega) (growslice_fits (by omega) hbytes)
    have hge := grownCap_ge w (zs.length + ys.length) cap e
    refine ⟨_, _, _, hr, ⟨by rw [List.length_append]; exact hge, grownCap_le_maxLen w _ _ e h63, fun _ => ⟨w.heap.size, _, rfl, hB, heap_alloc_new w.drew _, ?_, ?_⟩⟩, ⟨rfl, rfl, rfl, by simp, fun b hb _ => Below.heap_alloc w.drew _ b hb⟩, .inr ?_, fun h => absurd h hroom⟩
    · simp only [Array.size_append, List.size_toArray, List.length_append, size_zeroCells, hzs, hlz, hly, ← Nat.add_mul]
      exact Nat.mul_le_mul_right _ (by omega)
    · intro j hj
      rw [← flatMap_length hR] at hj
      rw [Array.getElem?_append_left (by rw [List.size_toArray, ← List.flatMap_append]; exact hj), ← List.flatMap_append]
      simp [flat]
    · have : ¬ grownCap w (zs.length + ys.length) cap e = 0 := by omega
      simp [rowBlk, this]

/-- What a slice type's elements are: their type, cells, bytes, rows. -/
structure Elt (P : Program) (t e : TypeId) (k bytes : Nat) (R : α → List Value) : Prop where
  under : P.underlying t = some (.slice e)
  info : ∃ i z, P.info? e = some i ∧ i.zero = some z ∧ i.size = k ∧ i.bytes = bytes ∧ z.cells.size = k
  pos : 0 < k
  len : ∀ z, (R z).length = k
  one : ∀ z, ∀ u ∈ R z, u.oneCell' = true

/-- What append leaves: a row, and where it lies. -/
structure Appended (w w' : World) (B : Nat) (e : TypeId) (a a' : Option Addr) (cap cap' k : Nat) (R : α → List Value) (zs : List α) : Prop where
  row : Row w' B e a' cap' k R zs
  grown : w.grownBy w' (rowBlk a cap)
  blk : rowBlk a' cap' = rowBlk a cap ∨ rowBlk a' cap' = some w.heap.size
  stay : zs.length ≤ cap → a' = a ∧ cap' = cap

theorem run_append_elt {P : Program} {t ty : TypeId} {bytes n m N : Nat} (el : Elt P t e k bytes R) (hrow : Row w B e a cap k R zs) {ys : List α} {ay : Option Addr} {cy : Nat} (hys : RowsAt w ay k R ys) (hn : zs.length = n) (hm : ys.length = m) (hN : n + m = N)
    (h63 : N ≤ maxLen) (hbytes : N * bytes ≤ 140737488355328) (hB : B ≤ w.heap.size) :
    ∃ a' cap' w', (Builtin.append_ #[t, t] ty #[.slice a n cap, .slice ay m cy]).run P w = .ok (.slice a' N cap') w' ∧ Appended w w' B e a a' cap cap' k R (zs ++ ys) := by
  subst hn hm hN
  obtain ⟨i, z, h1, h2, h3, h4, h5⟩ := el.info
  obtain ⟨a', cap', w', q1, q2, q3, q4, q5⟩ := run_append_row (ty := ty) (cy := cy) el.under el.under h1 h2 h3 h4 h5 el.pos el.len el.one hrow hys h63 hbytes hB
  exact ⟨a', cap', w', q1, q2, q3, q4, fun h => q5 (by rw [List.length_append] at h; exact h)⟩

/-- The law at a list of operations. -/
theorem wpList_append_row {P : Program} {ops : Array Oper} {rest : List Oper} {o : Oper} {ac : Act} {Q : Exit → Act → World → Prop} (hgd : o.guard = none) (s x : Operand) {t : TypeId}
    (ho : o.op = .call { callee := .builtin .append, args := #[s, x], argTypes := #[t, t] }) {bytes n m : Nat} (N : Nat) (el : Elt P t e k bytes R) {ys : List α} {ay : Option Addr} {cy : Nat} (hs : ac.eval s = .slice a n cap) (hx : ac.eval x = .slice ay m cy)
    (hrow : Row w B e a cap k R zs) (hys : RowsAt w ay k R ys) (hn : zs.length = n) (hm : ys.length = m) (hN : n + m = N) (h63 : N ≤ maxLen) (hbytes : N * bytes ≤ 140737488355328) (hB : B ≤ w.heap.size)
    (h : ∀ a' cap' w', Appended w w' B e a a' cap cap' k R (zs ++ ys) → wpList P ops Q rest (ac.put o.dst (.slice a' N cap')) w') : wpList P ops Q (o :: rest) ac w := by
  refine wpList_plain hgd fun K hK => ?_
  obtain ⟨a', cap', w', hrun, q⟩ := run_append_elt (ty := o.type) (cy := cy) el hrow hys hn hm hN h63 hbytes hB
  unfold Oper.wp
  simp [execOp, ho, resolve, invoke, builtin, hs, hx, hrun, Result.andThen]
  exact hK _ _ (h a' cap' w' q)

/-- The law at a step of a region that draws its order. -/
theorem step_append_elt {P : Program} {ops : Array Oper} {o : Oper} {ac : Act} {K : Act → World → Prop} {Q : Exit → Act → World → Prop} {E : Prop} (hgd : o.guard = none) (s x : Operand) {t : TypeId}
    (ho : o.op = .call { callee := .builtin .append, args := #[s, x], argTypes := #[t, t] }) {bytes n m : Nat} (N : Nat) (el : Elt P t e k bytes R) {ys : List α} {ay : Option Addr} {cy : Nat} (hs : ac.eval s = .slice a n cap) (hx : ac.eval x = .slice ay m cy)
    (hrow : Row w B e a cap k R zs) (hys : RowsAt w ay k R ys) (hn : zs.length = n) (hm : ys.length = m) (hN : n + m = N) (h63 : N ≤ maxLen) (hbytes : N * bytes ≤ 140737488355328) (hB : B ≤ w.heap.size)
    (h : ∀ a' cap' w', Appended w w' B e a a' cap cap' k R (zs ++ ys) → K (ac.put o.dst (.slice a' N cap')) w') :
    if Region.wanted o (yielded ops ac.tmps) = true then Oper.wp P o ac w K Q else E := by
  have hw : Region.wanted o (yielded ops ac.tmps) = true := by simp [Region.wanted, hgd]
  rw [if_pos hw]
  obtain ⟨a', cap', w', hrun, q⟩ := run_append_elt (ty := o.type) (cy := cy) el hrow hys hn hm hN h63 hbytes hB
  unfold Oper.wp
  simp [execOp, ho, resolve, invoke, builtin, hs, hx, hrun, Result.andThen]
  exact h a' cap' w' q
end

/-- What append to a slice without room leaves. -/
structure NewRow {α : Type} (w w' : World) (B : Nat) (e : TypeId) (a' : Option Addr) (cap' k : Nat) (R : α → List Value) (zs : List α) : Prop where
  row : Row w' B e a' cap' k R zs
  below : Below w.heap.size w w'
  blk : ∀ g, rowBlk a' cap' = some g → g = w.heap.size
theorem Appended.new {α : Type} {w w' : World} {B e k cap' : Nat} {a a' : Option Addr} {R : α → List Value} {zs : List α} (h : Appended w w' B e a a' 0 cap' k R ([] ++ zs)) : NewRow w w' B e a' cap' k R zs :=
  ⟨h.row, ⟨h.grown.os, h.grown.tape, h.grown.output, h.grown.size, fun b hb => h.grown.block b hb (by simp [rowBlk])⟩, fun g hg => by
    rcases h.blk with q | q
    · rw [hg] at q; simp [rowBlk] at q
    · rw [hg] at q
      injection q⟩
theorem step_append_new {α : Type} {w : World} (B : Nat) {e k : Nat} {a : Option Addr} {R : α → List Value} {P : Program} {ops : Array Oper} {o : Oper} {ac : Act} {K : Act → World → Prop} {Q : Exit → Act → World → Prop} {E : Prop} (hgd : o.guard = none) (s x : Operand) {t : TypeId}
    (ho : o.op = .call { callee := .builtin .append, args := #[s, x], argTypes := #[t, t] }) {bytes m : Nat} (el : Elt P t e k bytes R) {ys : List α} {ay : Option Addr} {cy : Nat} (hs : ac.eval s = .slice a 0 0) (hx : ac.eval x = .slice ay m cy)
    (hys : RowsAt w ay k R ys) (hm : ys.length = m) (h63 : m ≤ maxLen) (hbytes : m * bytes ≤ 140737488355328) (hB : B ≤ w.heap.size)
    (h : ∀ a' cap' w', NewRow w w' B e a' cap' k R ys → K (ac.put o.dst (.slice a' m cap')) w') :
    if Region.wanted o (yielded ops ac.tmps) = true then Oper.wp P o ac w K Q else E :=
  step_append_elt hgd s x ho m el hs hx (Row.nil w B e a k R) hys rfl hm (Nat.zero_add m) h63 hbytes hB fun a' c' w' q => h a' c' w' q.new
theorem wpList_append_new {α : Type} {w : World} (B : Nat) {e k : Nat} {a : Option Addr} {R : α → List Value} {P : Program} {ops : Array Oper} {rest : List Oper} {o : Oper} {ac : Act} {Q : Exit → Act → World → Prop} (hgd : o.guard = none) (s x : Operand) {t : TypeId}
    (ho : o.op = .call { callee := .builtin .append, args := #[s, x], argTypes := #[t, t] }) {bytes m : Nat} (el : Elt P t e k bytes R) {ys : List α} {ay : Option Addr} {cy : Nat} (hs : ac.eval s = .slice a 0 0) (hx : ac.eval x = .slice ay m cy)
    (hys : RowsAt w ay k R ys) (hm : ys.length = m) (h63 : m ≤ maxLen) (hbytes : m * bytes ≤ 140737488355328) (hB : B ≤ w.heap.size)
    (h : ∀ a' cap' w', NewRow w w' B e a' cap' k R ys → wpList P ops Q rest (ac.put o.dst (.slice a' m cap')) w') : wpList P ops Q (o :: rest) ac w :=
  wpList_append_row hgd s x ho m el hs hx (Row.nil w B e a k R) hys rfl hm (Nat.zero_add m) h63 hbytes hB fun a' c' w' q => h a' c' w' q.new
theorem NewRow.apart {α : Type} {w w' : World} {B e k cap' : Nat} {a' : Option Addr} {R : α → List Value} {zs : List α} (h : NewRow w w' B e a' cap' k R zs) {β : Type} {B2 e2 k2 cap2 : Nat} {a2 : Option Addr} {R2 : β → List Value} {ys : List β} (r : Row w B2 e2 a2 cap2 k2 R2 ys) : ∀ g, rowBlk a' cap' = some g → rowBlk a2 cap2 ≠ some g := by
  intro g hg h2
  have hlt := (r.blk h2).2
  have := h.blk g hg
  omega

theorem step_build0 {α : Type} {w : World} {e k bytes : Nat} {R : α → List Value} {P : Program} {ops : Array Oper} {o : Oper} {ac : Act} {K : Act → World → Prop} {Q : Exit → Act → World → Prop} {E : Prop} (hgd : o.guard = none) {t : TypeId}
    (ho : o.op = .buildSlice t 0 #[]) (el : Elt P t e k bytes R) (h : K (ac.put o.dst (.slice (some ⟨w.heap.size, 0, none⟩) 0 0)) (w.alloc (.cells #[] e))) :
    if Region.wanted o (yielded ops ac.tmps) = true then Oper.wp P o ac w K Q else E := by
  have hw : Region.wanted o (yielded ops ac.tmps) = true := by simp [Region.wanted, hgd]
  rw [if_pos hw]
  obtain ⟨i, z, h2, h3, h4, h5, h6⟩ := el.info
  unfold Oper.wp
  simp [execOp, ho, Result.andThen, Instr.buildSlice, run_underlying el.under, zeroValue, sizeOf, typeInfo, h2, h3, newRow, h4, Instr.fill]
  have h0 : (Array.map (fun _ => (default : Value)) (Array.range 0)) = #[] := by simp
  rw [h0]
  exact h

/-! What go_region_held3 is told: below B the world is as W was; stores from B on are let in. -/
theorem KeptB.refl (B : Nat) (W : World) : ((∀ b o, b < B → (W).cell? ⟨b, o, none⟩ = (W).cell? ⟨b, o, none⟩) ∧ Below (B) (W) (W)) := ⟨fun _ _ _ => rfl, Below.refl _ _⟩
theorem KeptB.of {B : Nat} {W w1 : World} (h : Below B W w1) : ((∀ b o, b < B → (w1).cell? ⟨b, o, none⟩ = (W).cell? ⟨b, o, none⟩) ∧ Below (B) (W) (w1)) := ⟨fun b o hb => h.cell (p := ⟨b, o, none⟩) hb, h⟩
theorem KeptB.drew {B : Nat} {W w1 : World} (h : ((∀ b o, b < B → (w1).cell? ⟨b, o, none⟩ = (W).cell? ⟨b, o, none⟩) ∧ Below (B) (W) (w1))) : ((∀ b o, b < B → (w1.drew).cell? ⟨b, o, none⟩ = (W).cell? ⟨b, o, none⟩) ∧ Below (B) (W) (w1.drew)) := ⟨h.1, h.2.drew⟩
theorem KeptB.alloc {B : Nat} {W w1 : World} (hB : B ≤ W.heap.size) (x : Obj) (h : ((∀ b o, b < B → (w1).cell? ⟨b, o, none⟩ = (W).cell? ⟨b, o, none⟩) ∧ Below (B) (W) (w1))) : ((∀ b o, b < B → (w1.alloc x).cell? ⟨b, o, none⟩ = (W).cell? ⟨b, o, none⟩) ∧ Below (B) (W) (w1.alloc x)) := KeptB.of (h.2.alloc (Nat.le_trans hB h.2.size) x)
theorem KeptB.next {B : Nat} {W w1 w2 : World} (hB : B ≤ W.heap.size) (h : ((∀ b o, b < B → (w1).cell? ⟨b, o, none⟩ = (W).cell? ⟨b, o, none⟩) ∧ Below (B) (W) (w1))) (k : Below w1.heap.size w1 w2) : ((∀ b o, b < B → (w2).cell? ⟨b, o, none⟩ = (W).cell? ⟨b, o, none⟩) ∧ Below (B) (W) (w2)) := KeptB.of (h.2.trans (k.mono (Nat.le_trans hB h.2.size)))
theorem KeptB.set {B : Nat} {W w1 : World} {p : Addr} (hp : B ≤ p.block) (v : Value) (h : ((∀ b o, b < B → (w1).cell? ⟨b, o, none⟩ = (W).cell? ⟨b, o, none⟩) ∧ Below (B) (W) (w1))) : ((∀ b o, b < B → (w1.setCell p v).cell? ⟨b, o, none⟩ = (W).cell? ⟨b, o, none⟩) ∧ Below (B) (W) (w1.setCell p v)) := KeptB.of (h.2.setCell hp v)
theorem KeptB.weak {B B' : Nat} {W w1 : World} (h : ((∀ b o, b < B' → (w1).cell? ⟨b, o, none⟩ = (W).cell? ⟨b, o, none⟩) ∧ Below (B') (W) (w1))) (hB : B ≤ B') : ((∀ b o, b < B → (w1).cell? ⟨b, o, none⟩ = (W).cell? ⟨b, o, none⟩) ∧ Below (B) (W) (w1)) := KeptB.of (h.2.mono hB)

section
variable {α : Type} {w w' : World} {B : Nat} {e : TypeId} {a : Option Addr} {cap k : Nat} {R : α → List Value} {zs : List α}
theorem Row.drew (h : Row w B e a cap k R zs) : Row w.drew B e a cap k R zs := ⟨h.len, h.max, h.own⟩
theorem Row.alloc (h : Row w B e a cap k R zs) (o : Obj) : Row (w.alloc o) B e a cap k R zs := h.below ((Below.refl _ _).alloc (Nat.le_refl _) o)
/-- A store into another block. -/
theorem Row.setOther (h : Row w B e a cap k R zs) {p : Addr} (hp : p.block < B) (v : Value) : Row (w.setCell p v) B e a cap k R zs :=
  ⟨h.len, h.max, fun hc => by
    obtain ⟨g, cur, rfl, h2, h3, h4⟩ := h.own hc
    exact ⟨g, cur, rfl, h2, (Below.heap_setCell w p v g (by omega)).trans h3, h4⟩⟩
theorem Row.setNe (h : Row w B e a cap k R zs) {p : Addr} (hp : ∀ g, rowBlk a cap = some g → g ≠ p.block) (v : Value) : Row (w.setCell p v) B e a cap k R zs :=
  ⟨h.len, h.max, fun hc => by
    obtain ⟨g, cur, rfl, h2, h3, h4⟩ := h.own hc
    exact ⟨g, cur, rfl, h2, (Below.heap_setCell w p v g (hp g (by simp [rowBlk]; omega))).trans h3, h4⟩⟩
theorem Appended.below {B' : Nat} {a' : Option Addr} {cap' : Nat} (h : Appended w w' B e a a' cap cap' k R zs) (hB : B' ≤ w.heap.size) (hn : ∀ g, rowBlk a cap = some g → B' ≤ g) : Below B' w w' :=
  ⟨h.grown.os, h.grown.tape, h.grown.output, h.grown.size, fun b hb => h.grown.block b (by omega) (fun e => by have := hn b e.symm; omega)⟩
end

theorem five_one : ∀ z : Rq, ∀ u ∈ z.cs, u.oneCell' = true := by
  intro z u hu
  simp [Rq.cs] at hu
  rcases hu with rfl | rfl | rfl | rfl | rfl <;> rfl
theorem int_one : ∀ z : Int, ∀ u ∈ intR z, u.oneCell' = true := by
  intro z u hu
  simp [intR] at hu
  subst hu
  rfl
set_option maxRecDepth 100000 in
theorem eltInt : Elt Try.prog 44 3 1 8 intR := by
  obtain ⟨i, h1, h2, h3, h4⟩ := info_parts (P := Try.prog) (e := 3) (z := .int .i64 0) (size := 1) (bytes := 8) (by kernel_rfl)
  exact ⟨Try.underlying44, ⟨i, _, h1, h2, h3, h4, rfl⟩, by decide, fun _ => rfl, int_one⟩
set_option maxRecDepth 100000 in
theorem eltReq : Elt Try.prog 28 34 5 40 Rq.cs := by
  obtain ⟨i, h1, h2, h3, h4⟩ := info_parts (P := Try.prog) (e := 34) (z := .agg #[.int .i64 0, .int .i64 0, .int .i64 0, .int .i64 0, .int .i64 0]) (size := 5) (bytes := 40) (by kernel_rfl)
  exact ⟨Try.underlying28, ⟨i, _, h1, h2, h3, h4, rfl⟩, by decide, fun _ => rfl, five_one⟩
set_option maxRecDepth 100000 in
theorem eltEnt : Elt Try.prog 43 92 5 40 Rq.cs := by
  obtain ⟨i, h1, h2, h3, h4⟩ := info_parts (P := Try.prog) (e := 92) (z := .agg #[.int .i64 0, .int .i64 0, .int .i64 0, .int .i64 0, .int .i64 0]) (size := 5) (bytes := 40) (by kernel_rfl)
  exact ⟨Try.underlying43, ⟨i, _, h1, h2, h3, h4, rfl⟩, by decide, fun _ => rfl, five_one⟩
end Go.Proofs.Ytofedboeggdkaaa

/-! Contracts of the functions that weigh (szXS) and compare (eqXS) slices of integers and of structs of five; eqXS: of two that are alike; no condition. -/
namespace Go.Proofs.Ytofedboeggdkaaa
open Go.RowKit Go.Joins

/-- What is left behind n elements; -1: too many. -/
def leftOf (left : Int) (n : Nat) : Int := if left - n < 0 then -1 else left - n
/-- Yes; nothing old has turned. -/
def Yes (w : World) (e : Ending) (w' : World) : Prop := e = .returned (.bool true) ∧ Below w.heap.size w w'

theorem eqFive (c n o x y : Int) : (c == c && n == n && o == o && x == x && y == y) = true := by simp


set_option maxHeartbeats 400000 in
theorem szIntS_c (a : Option Addr) (n cap : Nat) (left : Int) (w : World) (hlc : n ≤ cap) (hm : cap ≤ maxLen) (h0 : 0 ≤ left) (h1 : left ≤ 1048576) :
    Calls Try.prog 98 #[.slice a n cap, .int .i64 left] w fun e w' => e = .returned (.int .i64 (leftOf left n)) ∧ w = w' := by
  unfold maxLen at hm
  by_cases hlt : left - n < 0
  · go_enter Try.func98, Try.ntmps98
    go_wp2
    go_ret
    exact ⟨ret_int (by unfold leftOf; rw [if_pos hlt]), rfl⟩
  · go_enter Try.func98, Try.ntmps98
    go_wp2
    go_ret
    exact ⟨ret_int (by unfold leftOf; rw [if_neg (by omega)]), rfl⟩

set_option maxRecDepth 100000 in
set_option maxHeartbeats 1000000 in
theorem eqIntS_c (va vb : Value) (zs : List Int) (w : World) (ha : IsSl w va 1 intR zs) (hb : IsSl w vb 1 intR zs) :
    Calls Try.prog 48 #[va, vb] w (Yes w) := by
  obtain ⟨a, cap, rfl, hlc, hm, hra⟩ := ha
  obtain ⟨b, cap', rfl, hlc', hm', hrb⟩ := hb
  have HA := Lib.hid hra
  have HB := Lib.hid hrb
  clear hra hrb
  unfold maxLen at hm hm'
  generalize hnn : zs.length = n at *
  go_enter Try.func48, Try.ntmps48
  go_wp2_with fail
  go_loopw [5] (fun i wr => ∃ k : Nat, k ≤ n ∧ i = .int .i64 k ∧ Below w.heap.size w wr) (fun i _ => n - (intOf i).toNat)
  case atStart => exact ⟨0, Nat.zero_le _, rfl, Below.refl _ _⟩
  case round =>
    obtain ⟨k, hk, rfl, hbel⟩ := hrel
    by_cases hlt : k < n
    · have hkz : k < zs.length := by omega
      have hk1 : (k : Int) < (n : Int) := by omega
      have hk0 : (0 : Int) ≤ (k : Int) := by omega
      obtain ⟨b0, o0, rfl, hl0, hc0⟩ := HA.out k hkz
      obtain ⟨b1, o1, rfl, hl1, hc1⟩ := HB.out k hkz
      have c0 : wr.cell? ⟨b0, o0 + k, none⟩ = some (.int .i64 zs[k]) := by
        have h := (hbel.cell (p := ⟨b0, _, none⟩) hl0).trans (hc0 0 (by decide))
        rwa [Nat.mul_one, Nat.add_zero] at h
      have d0 : wr.cell? ⟨b1, o1 + k, none⟩ = some (.int .i64 zs[k]) := by
        have h := (hbel.cell (p := ⟨b1, _, none⟩) hl1).trans (hc1 0 (by decide))
        rwa [Nat.mul_one, Nat.add_zero] at h
      clear hc0 hc1
      generalize zs[k] = z at *
      go_wp2_with fail
      go_region_with fail
      all_goals
        have hbel1 := Below.drew hbel
        clear hbel
        go_wp2_with fail
        refine ⟨⟨k + 1, by omega, by go_num, hbel1⟩, ?_⟩
        simp [intOf]; omega
    · go_wp2_with fail
      go_ret
      exact ⟨rfl, hbel⟩


set_option maxHeartbeats 400000 in
theorem szReqS_c (a : Option Addr) (n cap : Nat) (left : Int) (w : World) (hlc : n ≤ cap) (hm : cap ≤ maxLen) (h0 : 0 ≤ left) (h1 : left ≤ 1048576) :
    Calls Try.prog 60 #[.slice a n cap, .int .i64 left] w fun e w' => e = .returned (.int .i64 (leftOf left n)) ∧ w = w' := by
  unfold maxLen at hm
  by_cases hlt : left - n < 0
  · go_enter Try.func60, Try.ntmps60
    go_wp2
    go_ret
    exact ⟨ret_int (by unfold leftOf; rw [if_pos hlt]), rfl⟩
  · go_enter Try.func60, Try.ntmps60
    go_wp2
    go_ret
    exact ⟨ret_int (by unfold leftOf; rw [if_neg (by omega)]), rfl⟩

set_option maxHeartbeats 400000 in
theorem eqReq_self (c n o x y : Int) (w : World) :
    Calls Try.prog 108 #[.agg #[.int .i64 c, .int .i64 n, .int .i64 o, .int .i64 x, .int .i64 y], .agg #[.int .i64 c, .int .i64 n, .int .i64 o, .int .i64 x, .int .i64 y]] w (Yes w) := by
  go_enter Try.func108, Try.ntmps108
  go_wp2
  go_ret
  exact ⟨rfl, (by repeat' (first | with_reducible exact Below.refl _ _ | with_reducible assumption | with_reducible refine Below.alloc ?_ ?_ _ | with_reducible refine Below.drew ?_ | with_reducible refine Below.setCell ?_ ?_ _ | omega | (simp; omega) | (simp; done)))⟩

set_option maxRecDepth 100000 in
set_option maxHeartbeats 1000000 in
theorem eqReqS_c (va vb : Value) (zs : List Rq) (w : World) (ha : IsSl w va 5 Rq.cs zs) (hb : IsSl w vb 5 Rq.cs zs) :
    Calls Try.prog 69 #[va, vb] w (Yes w) := by
  obtain ⟨a, cap, rfl, hlc, hm, hra⟩ := ha
  obtain ⟨b, cap', rfl, hlc', hm', hrb⟩ := hb
  have HA := Lib.hid hra
  have HB := Lib.hid hrb
  clear hra hrb
  unfold maxLen at hm hm'
  generalize hnn : zs.length = n at *
  go_enter Try.func69, Try.ntmps69
  go_wp2_with fail
  go_loopw [5] (fun i wr => ∃ k : Nat, k ≤ n ∧ i = .int .i64 k ∧ Below w.heap.size w wr) (fun i _ => n - (intOf i).toNat)
  case atStart => exact ⟨0, Nat.zero_le _, rfl, Below.refl _ _⟩
  case round =>
    obtain ⟨k, hk, rfl, hbel⟩ := hrel
    by_cases hlt : k < n
    · have hkz : k < zs.length := by omega
      have hk1 : (k : Int) < (n : Int) := by omega
      have hk0 : (0 : Int) ≤ (k : Int) := by omega
      obtain ⟨b0, o0, rfl, hl0, hc0⟩ := HA.out k hkz
      obtain ⟨b1, o1, rfl, hl1, hc1⟩ := HB.out k hkz
      have c0 : wr.cell? ⟨b0, o0 + k * 5, none⟩ = some (.int .i64 zs[k].c) := (hbel.cell (p := ⟨b0, _, none⟩) hl0).trans (hc0 0 (by decide))
      have c1 : wr.cell? ⟨b0, o0 + k * 5 + 1, none⟩ = some (.int .i64 zs[k].n) := (hbel.cell (p := ⟨b0, _, none⟩) hl0).trans (hc0 1 (by decide))
      have c2 : wr.cell? ⟨b0, o0 + k * 5 + 2, none⟩ = some (.int .i64 zs[k].o) := (hbel.cell (p := ⟨b0, _, none⟩) hl0).trans (hc0 2 (by decide))
      have c3 : wr.cell? ⟨b0, o0 + k * 5 + 3, none⟩ = some (.int .i64 zs[k].x) := (hbel.cell (p := ⟨b0, _, none⟩) hl0).trans (hc0 3 (by decide))
      have c4 : wr.cell? ⟨b0, o0 + k * 5 + 4, none⟩ = some (.int .i64 zs[k].y) := (hbel.cell (p := ⟨b0, _, none⟩) hl0).trans (hc0 4 (by decide))
      have d0 : wr.cell? ⟨b1, o1 + k * 5, none⟩ = some (.int .i64 zs[k].c) := (hbel.cell (p := ⟨b1, _, none⟩) hl1).trans (hc1 0 (by decide))
      have d1 : wr.cell? ⟨b1, o1 + k * 5 + 1, none⟩ = some (.int .i64 zs[k].n) := (hbel.cell (p := ⟨b1, _, none⟩) hl1).trans (hc1 1 (by decide))
      have d2 : wr.cell? ⟨b1, o1 + k * 5 + 2, none⟩ = some (.int .i64 zs[k].o) := (hbel.cell (p := ⟨b1, _, none⟩) hl1).trans (hc1 2 (by decide))
      have d3 : wr.cell? ⟨b1, o1 + k * 5 + 3, none⟩ = some (.int .i64 zs[k].x) := (hbel.cell (p := ⟨b1, _, none⟩) hl1).trans (hc1 3 (by decide))
      have d4 : wr.cell? ⟨b1, o1 + k * 5 + 4, none⟩ = some (.int .i64 zs[k].y) := (hbel.cell (p := ⟨b1, _, none⟩) hl1).trans (hc1 4 (by decide))
      clear hc0 hc1
      generalize zs[k] = z at *
      go_wp2_with fail
      go_region_with (go_at_call 108; refine (eqReq_self _ _ _ _ _ _).mono ?_; rintro e w1 ⟨rfl, k1⟩)
      all_goals
        have hbel1 := below_next hbel (below_next (Below.drew (Below.refl _ _)) k1)
        clear k1 hbel
        go_wp2_with fail
        refine ⟨⟨k + 1, by omega, by go_num, by first | exact hbel1 | exact hbel1.drew⟩, ?_⟩
        simp [intOf]; omega
    · go_wp2_with fail
      go_ret
      exact ⟨rfl, hbel⟩


set_option maxHeartbeats 400000 in
theorem szEntS_c (a : Option Addr) (n cap : Nat) (left : Int) (w : World) (hlc : n ≤ cap) (hm : cap ≤ maxLen) (h0 : 0 ≤ left) (h1 : left ≤ 1048576) :
    Calls Try.prog 97 #[.slice a n cap, .int .i64 left] w fun e w' => e = .returned (.int .i64 (leftOf left n)) ∧ w = w' := by
  unfold maxLen at hm
  by_cases hlt : left - n < 0
  · go_enter Try.func97, Try.ntmps97
    go_wp2
    go_ret
    exact ⟨ret_int (by unfold leftOf; rw [if_pos hlt]), rfl⟩
  · go_enter Try.func97, Try.ntmps97
    go_wp2
    go_ret
    exact ⟨ret_int (by unfold leftOf; rw [if_neg (by omega)]), rfl⟩

set_option maxHeartbeats 400000 in
theorem eqEnt_self (c n o x y : Int) (w : World) :
    Calls Try.prog 126 #[.agg #[.int .i64 c, .int .i64 n, .int .i64 o, .int .i64 x, .int .i64 y], .agg #[.int .i64 c, .int .i64 n, .int .i64 o, .int .i64 x, .int .i64 y]] w (Yes w) := by
  go_enter Try.func126, Try.ntmps126
  go_wp2
  go_ret
  exact ⟨rfl, (by repeat' (first | with_reducible exact Below.refl _ _ | with_reducible assumption | with_reducible refine Below.alloc ?_ ?_ _ | with_reducible refine Below.drew ?_ | with_reducible refine Below.setCell ?_ ?_ _ | omega | (simp; omega) | (simp; done)))⟩

set_option maxRecDepth 100000 in
set_option maxHeartbeats 1000000 in
theorem eqEntS_c (va vb : Value) (zs : List Rq) (w : World) (ha : IsSl w va 5 Rq.cs zs) (hb : IsSl w vb 5 Rq.cs zs) :
    Calls Try.prog 101 #[va, vb] w (Yes w) := by
  obtain ⟨a, cap, rfl, hlc, hm, hra⟩ := ha
  obtain ⟨b, cap', rfl, hlc', hm', hrb⟩ := hb
  have HA := Lib.hid hra
  have HB := Lib.hid hrb
  clear hra hrb
  unfold maxLen at hm hm'
  generalize hnn : zs.length = n at *
  go_enter Try.func101, Try.ntmps101
  go_wp2_with fail
  go_loopw [5] (fun i wr => ∃ k : Nat, k ≤ n ∧ i = .int .i64 k ∧ Below w.heap.size w wr) (fun i _ => n - (intOf i).toNat)
  case atStart => exact ⟨0, Nat.zero_le _, rfl, Below.refl _ _⟩
  case round =>
    obtain ⟨k, hk, rfl, hbel⟩ := hrel
    by_cases hlt : k < n
    · have hkz : k < zs.length := by omega
      have hk1 : (k : Int) < (n : Int) := by omega
      have hk0 : (0 : Int) ≤ (k : Int) := by omega
      obtain ⟨b0, o0, rfl, hl0, hc0⟩ := HA.out k hkz
      obtain ⟨b1, o1, rfl, hl1, hc1⟩ := HB.out k hkz
      have c0 : wr.cell? ⟨b0, o0 + k * 5, none⟩ = some (.int .i64 zs[k].c) := (hbel.cell (p := ⟨b0, _, none⟩) hl0).trans (hc0 0 (by decide))
      have c1 : wr.cell? ⟨b0, o0 + k * 5 + 1, none⟩ = some (.int .i64 zs[k].n) := (hbel.cell (p := ⟨b0, _, none⟩) hl0).trans (hc0 1 (by decide))
      have c2 : wr.cell? ⟨b0, o0 + k * 5 + 2, none⟩ = some (.int .i64 zs[k].o) := (hbel.cell (p := ⟨b0, _, none⟩) hl0).trans (hc0 2 (by decide))
      have c3 : wr.cell? ⟨b0, o0 + k * 5 + 3, none⟩ = some (.int .i64 zs[k].x) := (hbel.cell (p := ⟨b0, _, none⟩) hl0).trans (hc0 3 (by decide))
      have c4 : wr.cell? ⟨b0, o0 + k * 5 + 4, none⟩ = some (.int .i64 zs[k].y) := (hbel.cell (p := ⟨b0, _, none⟩) hl0).trans (hc0 4 (by decide))
      have d0 : wr.cell? ⟨b1, o1 + k * 5, none⟩ = some (.int .i64 zs[k].c) := (hbel.cell (p := ⟨b1, _, none⟩) hl1).trans (hc1 0 (by decide))
      have d1 : wr.cell? ⟨b1, o1 + k * 5 + 1, none⟩ = some (.int .i64 zs[k].n) := (hbel.cell (p := ⟨b1, _, none⟩) hl1).trans (hc1 1 (by decide))
      have d2 : wr.cell? ⟨b1, o1 + k * 5 + 2, none⟩ = some (.int .i64 zs[k].o) := (hbel.cell (p := ⟨b1, _, none⟩) hl1).trans (hc1 2 (by decide))
      have d3 : wr.cell? ⟨b1, o1 + k * 5 + 3, none⟩ = some (.int .i64 zs[k].x) := (hbel.cell (p := ⟨b1, _, none⟩) hl1).trans (hc1 3 (by decide))
      have d4 : wr.cell? ⟨b1, o1 + k * 5 + 4, none⟩ = some (.int .i64 zs[k].y) := (hbel.cell (p := ⟨b1, _, none⟩) hl1).trans (hc1 4 (by decide))
      clear hc0 hc1
      generalize zs[k] = z at *
      go_wp2_with fail
      go_region_with (go_at_call 126; refine (eqEnt_self _ _ _ _ _ _).mono ?_; rintro e w1 ⟨rfl, k1⟩)
      all_goals
        have hbel1 := below_next hbel (below_next (Below.drew (Below.refl _ _)) k1)
        clear k1 hbel
        go_wp2_with fail
        refine ⟨⟨k + 1, by omega, by go_num, by first | exact hbel1 | exact hbel1.drew⟩, ?_⟩
        simp [intOf]; omega
    · go_wp2_with fail
      go_ret
      exact ⟨rfl, hbel⟩

end Go.Proofs.Ytofedboeggdkaaa

/-! Contracts of toAhead, szAhead, eqAhead; condition: at most 2^20 elements. -/
namespace Go.Proofs.Ytofedboeggdkaaa
open Go.RowKit Go.Joins

theorem sl_of_block {α : Type} {w : World} {B n k : Nat} {R : α → List Value} {zs : List α} {t : TypeId} {fr : Nat × Nat} (hR : ∀ z, (R z).length = k) (h : w.heap[B]? = some (.cells (flat R zs) t fr)) (hl : zs.length = n) (hn : n ≤ 1048576) : IsSl w (.slice (some ⟨B, 0, none⟩) n n) k R zs := by
  subst hl
  exact ⟨some ⟨B, 0, none⟩, zs.length, rfl, Nat.le_refl _, by unfold maxLen; omega, rows_of_block hR h⟩
theorem int_len (z : Int) : (intR z).length = 1 := rfl
theorem Copied.sl5 {t : TypeId} {zs : List Rq} {w w' : World} {e : Ending} (h : Copied t Rq.cs zs w e w') (hn : zs.length ≤ 1048576) :
    ∃ g, e = .returned (.slice (some ⟨g, 0, none⟩) zs.length zs.length) ∧ IsSl w' (.slice (some ⟨g, 0, none⟩) zs.length zs.length) 5 Rq.cs zs ∧ Below w.heap.size w w' := ⟨_, h.1, sl_of_block five_len h.2.1 rfl hn, h.2.2⟩
theorem Copied.sl1 {t : TypeId} {zs : List Int} {w w' : World} {e : Ending} (h : Copied t intR zs w e w') (hn : zs.length ≤ 1048576) :
    ∃ g, e = .returned (.slice (some ⟨g, 0, none⟩) zs.length zs.length) ∧ IsSl w' (.slice (some ⟨g, 0, none⟩) zs.length zs.length) 1 intR zs ∧ Below w.heap.size w w' := ⟨_, h.1, sl_of_block int_len h.2.1 rfl hn, h.2.2⟩

/-- The world behind one store, under a name of its own. -/
theorem stored1 (w : World) (g i : Nat) (v : Value) {cs : Array Value} {t : TypeId} {fr : Nat × Nat} (h : w.heap[g]? = some (.cells cs t fr)) :
    ∃ W, W = w.setCell ⟨g, i, none⟩ v ∧ W.heap.size = w.heap.size ∧ W.heap[g]? = some (.cells (cs.setIfInBounds i v) t fr) ∧ (∀ b, b ≠ g → W.heap[b]? = w.heap[b]?) ∧ Below g w W :=
  ⟨_, rfl, by simp, block_setCell h v, fun b hb => Below.heap_setCell _ _ _ _ hb, by exact (by repeat' (first | with_reducible exact Below.refl _ _ | with_reducible assumption | with_reducible refine Below.alloc ?_ ?_ _ | with_reducible refine Below.drew ?_ | with_reducible refine Below.setCell ?_ ?_ _ | omega | (simp; omega) | (simp; done)))⟩

/-- A client that is ahead, anew: its blocks. -/
def GotAhB (z : Ah) (w : World) (e : Ending) (w' : World) : Prop :=
  ∃ g0 g1, e = .returned (.agg #[.slice (some ⟨g0, 0, none⟩) z.dn.length z.dn.length, .slice (some ⟨g1, 0, none⟩) z.wt.length z.wt.length, .int .i64 z.bk]) ∧
    w'.heap[g0]? = some (.cells (flat Rq.cs z.dn) 34 (0, 0)) ∧ w'.heap[g1]? = some (.cells (flat Rq.cs z.wt) 34 (0, 0)) ∧ w.heap.size ≤ g0 ∧ g0 < g1 ∧ Below w.heap.size w w'
/-- A client that is ahead, anew. -/
def GotAh (z : Ah) (w : World) (e : Ending) (w' : World) : Prop :=
  ∃ g0 g1, e = .returned (.agg #[.slice (some ⟨g0, 0, none⟩) z.dn.length z.dn.length, .slice (some ⟨g1, 0, none⟩) z.wt.length z.wt.length, .int .i64 z.bk]) ∧
    IsSl w' (.slice (some ⟨g0, 0, none⟩) z.dn.length z.dn.length) 5 Rq.cs z.dn ∧ IsSl w' (.slice (some ⟨g1, 0, none⟩) z.wt.length z.wt.length) 5 Rq.cs z.wt ∧ Below w.heap.size w w'

set_option maxHeartbeats 1000000 in
theorem toAhead_b (z : Ah) (a0 a1 : Option Addr) (c0 c1 : Nat) (w : World) (ha : IsSl w (.slice a0 z.dn.length c0) 5 Rq.cs z.dn) (hb : IsSl w (.slice a1 z.wt.length c1) 5 Rq.cs z.wt) (hla : z.dn.length ≤ 1048576) (hlb : z.wt.length ≤ 1048576) :
    Calls Try.prog 17 #[.agg #[.slice a0 z.dn.length c0, .slice a1 z.wt.length c1, .int .i64 z.bk]] w (GotAhB z w) := by
  obtain ⟨dn, wt, bk⟩ := z
  simp only at ha hb hla hlb ⊢
  generalize hn0 : dn.length = n0 at *
  generalize hn1 : wt.length = n1 at *
  go_enter Try.func17, Try.ntmps17
  go_wp2_with fail
  obtain ⟨W, hW, sW, aW, bW, cW, kW⟩ := blocks3 w (.cells #[.slice a0 n0 c0, .slice a1 n1 c1, .int .i64 bk] 24) (.cells #[.slice none 0 0, .slice none 0 0, .int .i64 0] 30) (.cells #[.slice none 0 0, .slice none 0 0, .int .i64 0] 30)
  rw [← hW]
  clear hW
  have HB := Lib.hid hb
  refine (toReqS_c _ dn _ (ha.below kW) (by omega)).mono ?_
  intro e w1 h1
  obtain ⟨rfl, h1, k1⟩ := h1
  rw [hn0]
  have K1 := below_next kW k1
  have s1 := k1.size
  have aW1 := carryB k1 (by omega) aW
  have bW1 := carryB k1 (by omega) bW
  have cW1 := carryB k1 (by omega) cW
  rw [sW] at h1 ⊢
  have hcA := cell_of_block aW1
  have hcC := cell_of_block cW1
  have hfC := unfrozen_of_block cW1
  have lW := lt_of_block h1
  clear aW bW cW ha hb kW k1
  go_wp2_with fail
  obtain ⟨X, hX, sX, cX, oX, kX⟩ := stored1 w1 (w.heap.size + 2) 0 (.slice (some ⟨w.heap.size + 3, 0, none⟩) n0 n0) cW1
  rw [← hX]
  clear hX
  have KX := K1.trans (kX.mono (by omega))
  have aX := (oX _ (by omega)).trans aW1
  have bX := (oX _ (by omega)).trans bW1
  have gX := (oX _ (by omega)).trans h1
  refine (toReqS_c _ wt _ (HB.out.below KX) (by omega)).mono ?_
  intro e w2 h2
  obtain ⟨rfl, h2, k2⟩ := h2
  rw [hn1]
  have K2 := below_next KX k2
  have aX2 := carryB k2 (by omega) aX
  have bX2 := carryB k2 (by omega) bX
  have cX2 := carryB k2 (by omega) cX
  have gX2 := carryB k2 (by omega) gX
  clear aX bX cX gX k2 KX oX kX hcA hcC hfC aW1 bW1 cW1 h1 K1
  have hcA := cell_of_block aX2
  have hcB := cell_of_block bX2
  have hfB := unfrozen_of_block bX2
  have hcC := cell_of_block cX2
  have hfC := unfrozen_of_block cX2
  have l2 := lt_of_block h2
  go_wp2_with fail
  have HK := Lib.hid K2
  refine bodyPost_ret (v := .agg #[.slice (some ⟨w.heap.size + 3, 0, none⟩) n0 n0, .slice (some ⟨w1.heap.size, 0, none⟩) n1 n1, .int .i64 bk]) (by simp [results, Try.results17, go_sem, hcB]) rfl ?_
  refine ⟨w.heap.size + 3, w1.heap.size, ?_, ?_, ?_, by omega, by omega, ?_⟩
  · rw [hn0, hn1]
  · repeat rw [Below.heap_setCell _ _ _ _ (by simp; try omega)]
    exact gX2
  · repeat rw [Below.heap_setCell _ _ _ _ (by simp; try omega)]
    rw [← sX]
    exact h2
  · replace K2 := HK.out
    exact (by repeat' (first | with_reducible exact Below.refl _ _ | with_reducible assumption | with_reducible refine Below.alloc ?_ ?_ _ | with_reducible refine Below.drew ?_ | with_reducible refine Below.setCell ?_ ?_ _ | omega | (simp; omega) | (simp; done)))
theorem toAhead_c (z : Ah) (a0 a1 : Option Addr) (c0 c1 : Nat) (w : World) (ha : IsSl w (.slice a0 z.dn.length c0) 5 Rq.cs z.dn) (hb : IsSl w (.slice a1 z.wt.length c1) 5 Rq.cs z.wt) (hla : z.dn.length ≤ 1048576) (hlb : z.wt.length ≤ 1048576) :
    Calls Try.prog 17 #[.agg #[.slice a0 z.dn.length c0, .slice a1 z.wt.length c1, .int .i64 z.bk]] w (GotAh z w) :=
  (toAhead_b z a0 a1 c0 c1 w ha hb hla hlb).mono fun _ _ ⟨g0, g1, he, h0, h1, _, _, k⟩ => ⟨g0, g1, he, sl_of_block five_len h0 rfl hla, sl_of_block five_len h1 rfl hlb, k⟩

set_option maxHeartbeats 1000000 in
theorem szAhead_c (a0 a1 : Option Addr) (n0 n1 c0 c1 : Nat) (bk : Int) (w : World) (h0 : n0 ≤ c0) (m0 : c0 ≤ maxLen) (h1 : n1 ≤ c1) (m1 : c1 ≤ maxLen) :
    Calls Try.prog 15 #[.agg #[.slice a0 n0 c0, .slice a1 n1 c1, .int .i64 bk], .int .i64 1048576] w fun e w' =>
      e = .returned (.int .i64 (if n0 + n1 ≤ 1048576 then 1048576 - n0 - n1 else -1)) ∧ Below w.heap.size w w' := by
  have M0 := Lib.hid m0
  have M1 := Lib.hid m1
  clear m0 m1
  by_cases hA : n0 ≤ 1048576
  · have e0 : leftOf 1048576 n0 = 1048576 - n0 := by unfold leftOf; rw [if_neg (by omega)]
    by_cases hB : n0 + n1 ≤ 1048576
    · have e1 : leftOf (1048576 - n0) n1 = 1048576 - n0 - n1 := by unfold leftOf; rw [if_neg (by omega)]
      go_enter Try.func15, Try.ntmps15
      go_wp2_with fail
      refine (szReqS_c _ _ _ _ _ h0 M0.out (by omega) (by omega)).mono ?_
      rintro e w1 ⟨rfl, rfl⟩
      rw [e0]
      go_wp2_with fail
      refine (szReqS_c _ _ _ _ _ h1 M1.out (by omega) (by omega)).mono ?_
      rintro e w1 ⟨rfl, rfl⟩
      rw [e1]
      go_wp2_with fail
      go_ret
      exact ⟨rfl, (by repeat' (first | with_reducible exact Below.refl _ _ | with_reducible assumption | with_reducible refine Below.alloc ?_ ?_ _ | with_reducible refine Below.drew ?_ | with_reducible refine Below.setCell ?_ ?_ _ | omega | (simp; omega) | (simp; done)))⟩
    · have e1 : leftOf (1048576 - n0) n1 = -1 := by unfold leftOf; rw [if_pos (by omega)]
      go_enter Try.func15, Try.ntmps15
      go_wp2_with fail
      refine (szReqS_c _ _ _ _ _ h0 M0.out (by omega) (by omega)).mono ?_
      rintro e w1 ⟨rfl, rfl⟩
      rw [e0]
      go_wp2_with fail
      refine (szReqS_c _ _ _ _ _ h1 M1.out (by omega) (by omega)).mono ?_
      rintro e w1 ⟨rfl, rfl⟩
      rw [e1]
      go_wp2_with fail
      go_ret
      exact ⟨rfl, (by repeat' (first | with_reducible exact Below.refl _ _ | with_reducible assumption | with_reducible refine Below.alloc ?_ ?_ _ | with_reducible refine Below.drew ?_ | with_reducible refine Below.setCell ?_ ?_ _ | omega | (simp; omega) | (simp; done)))⟩
  · have e0 : leftOf 1048576 n0 = -1 := by unfold leftOf; rw [if_pos (by omega)]
    go_enter Try.func15, Try.ntmps15
    go_wp2_with fail
    refine (szReqS_c _ _ _ _ _ h0 M0.out (by omega) (by omega)).mono ?_
    rintro e w1 ⟨rfl, rfl⟩
    rw [e0]
    go_wp2_with fail
    go_ret
    exact ⟨rfl, (by repeat' (first | with_reducible exact Below.refl _ _ | with_reducible assumption | with_reducible refine Below.alloc ?_ ?_ _ | with_reducible refine Below.drew ?_ | with_reducible refine Below.setCell ?_ ?_ _ | omega | (simp; omega) | (simp; done)))⟩

set_option maxHeartbeats 1000000 in
theorem eqAhead_c (z : Ah) (a0 a1 b0 b1 : Option Addr) (c0 c1 d0 d1 : Nat) (w : World) (ha0 : IsSl w (.slice a0 z.dn.length c0) 5 Rq.cs z.dn) (ha1 : IsSl w (.slice a1 z.wt.length c1) 5 Rq.cs z.wt)
    (hb0 : IsSl w (.slice b0 z.dn.length d0) 5 Rq.cs z.dn) (hb1 : IsSl w (.slice b1 z.wt.length d1) 5 Rq.cs z.wt) :
    Calls Try.prog 20 #[.agg #[.slice a0 z.dn.length c0, .slice a1 z.wt.length c1, .int .i64 z.bk], .agg #[.slice b0 z.dn.length d0, .slice b1 z.wt.length d1, .int .i64 z.bk]] w (Yes w) := by
  have A1 := Lib.hid ha1
  have B1 := Lib.hid hb1
  clear ha1 hb1
  go_enter Try.func20, Try.ntmps20
  go_wp2_with fail
  obtain ⟨W, hW, sW, aW, bW, kW⟩ := blocks2 w (.cells #[.slice a0 z.dn.length c0, .slice a1 z.wt.length c1, .int .i64 z.bk] 30) (.cells #[.slice b0 z.dn.length d0, .slice b1 z.wt.length d1, .int .i64 z.bk] 30)
  rw [← hW]
  clear hW
  refine (eqReqS_c _ _ z.dn _ (ha0.below kW) (hb0.below kW)).mono ?_
  rintro e w1 ⟨rfl, k1⟩
  have K1 := below_next kW k1
  have hcA := cell_of_block (carryB k1 (by omega) aW)
  have hcB := cell_of_block (carryB k1 (by omega) bW)
  go_wp2_with fail
  refine (eqReqS_c _ _ z.wt _ (A1.out.below K1) (B1.out.below K1)).mono ?_
  rintro e w2 ⟨rfl, k2⟩
  have s1 := k1.size
  have hcA2 := cell_of_block (carryB k2 (by omega) (carryB k1 (by omega) aW))
  have hcB2 := cell_of_block (carryB k2 (by omega) (carryB k1 (by omega) bW))
  have K2 := below_next K1 k2
  go_wp2_with fail
  go_ret
  exact ⟨rfl, K2⟩
end Go.Proofs.Ytofedboeggdkaaa

/-! Contracts of clone at lists of figures, of numbers, of asks; condition: small sizes. -/
namespace Go.Proofs.Ytofedboeggdkaaa
open Go.RowKit Go.Joins

/-- A copy in a block of its own, without room. -/
def Cloned {α : Type} (el k n : Nat) (R : α → List Value) (zs : List α) (w : World) (e : Ending) (w' : World) : Prop :=
  ∃ a', e = .returned (.slice a' n n) ∧ Row w' w.heap.size el a' n k R zs ∧ Below w.heap.size w w'
theorem run_eqlNil {P : Program} (t e : TypeId) (a : Option Addr) (l c : Nat) (h : P.underlying t = some (.slice e)) (w : World) : (binOp .eql t (.slice a l c) (.slice none 0 0)).run P w = .ok (.bool a.isNone) w := by
  simp [binOp, Go.run_equal_slice_nil w t e a l c h]


set_option maxRecDepth 100000 in
set_option maxHeartbeats 1000000 in
theorem slCloneEnt_c (a : Option Addr) (n c : Nat) (zs : List Rq) (w : World) (h : IsSl w (.slice a n c) 5 Rq.cs zs) (hs : n ≤ 16777216) :
    Calls Try.prog 129 #[.slice a n c] w fun e w' => ∃ a' c', e = .returned (.slice a' n c') ∧ Row w' w.heap.size 92 a' c' 5 Rq.cs zs ∧ Below w.heap.size w w' := by
  obtain ⟨hn, hc, hm, hr⟩ := h.bounds
  cases a with
  | none =>
    have hz := hr.none_nil
    subst hz
    simp only [List.length_nil] at hn
    subst hn
    clear hs hc hm hr h
    have hnil := run_eqlNil _ _ none 0 c Try.underlying43
    go_enter Try.func129, Try.ntmps129
    go_wp2_with fail
    go_ret
    exact ⟨none, 0, rfl, Row.nil _ _ _ _ _ _, (by repeat' (first | with_reducible exact Below.refl _ _ | with_reducible assumption | with_reducible refine Below.alloc ?_ ?_ _ | with_reducible refine Below.drew ?_ | with_reducible refine Below.setCell ?_ ?_ _ | omega | (simp; omega) | (simp; done)))⟩
  | some ad =>
    have HR := Lib.hid hr
    clear hr h
    have hnil := run_eqlNil _ _ (some ad) n c Try.underlying43
    go_enter Try.func129, Try.ntmps129
    go_wp2_with (at_builtin; refine wpList_append_new w.heap.size rfl _ _ rfl eltEnt rfl rfl (HR.out.below (by repeat' (first | with_reducible exact Below.refl _ _ | with_reducible assumption | with_reducible refine Below.alloc ?_ ?_ _ | with_reducible refine Below.drew ?_ | with_reducible refine Below.setCell ?_ ?_ _ | omega | (simp; omega) | (simp; done)))) hn (by simp only [maxLen]; omega) (by omega) (by simp <;> omega) ?_)
    intro a' c' w' q
    go_wp2_with fail
    go_ret
    exact ⟨a', c', rfl, q.row, below_next (by repeat' (first | with_reducible exact Below.refl _ _ | with_reducible assumption | with_reducible refine Below.alloc ?_ ?_ _ | with_reducible refine Below.drew ?_ | with_reducible refine Below.setCell ?_ ?_ _ | omega | (simp; omega) | (simp; done))) q.below⟩
set_option maxHeartbeats 1000000 in
theorem slClipEnt_c (a : Option Addr) (n c : Nat) (w : World) (hc : n ≤ c) (hm : c ≤ maxLen) :
    Calls Try.prog 128 #[.slice a n c] w fun e w' => e = .returned (.slice a n n) ∧ w = w' := by
  go_enter Try.func128, Try.ntmps128
  go_wp2_with fail
  go_ret
  exact ⟨rfl, rfl⟩
set_option maxHeartbeats 1000000 in
theorem cloneEnt_c (a : Option Addr) (n c : Nat) (zs : List Rq) (w : World) (h : IsSl w (.slice a n c) 5 Rq.cs zs) (hs : n ≤ 16777216) :
    Calls Try.prog 112 #[.slice a n c] w (Cloned 92 5 n Rq.cs zs w) := by
  have hn := h.bounds.1
  have H := Lib.hid h
  clear h
  go_enter Try.func112, Try.ntmps112
  go_wp2_with fail
  refine (slCloneEnt_c a n c zs _ H.out hs).mono ?_
  rintro e w1 ⟨a1, c1, rfl, r1, k1⟩
  have hl := r1.len
  have hmx := r1.max
  rw [hn] at hl
  have R1 := Lib.hid r1
  clear r1
  go_wp2_with fail
  refine (slClipEnt_c a1 n c1 _ hl hmx).mono ?_
  rintro e w2 ⟨rfl, rfl⟩
  have R2 := R1.out.clip
  rw [hn] at R2
  have R3 := Lib.hid R2
  clear R2
  go_wp2_with fail
  go_ret
  exact ⟨a1, rfl, R3.out, k1⟩

set_option maxRecDepth 100000 in
set_option maxHeartbeats 1000000 in
theorem slCloneint_c (a : Option Addr) (n c : Nat) (zs : List Int) (w : World) (h : IsSl w (.slice a n c) 1 intR zs) (hs : n ≤ 16777216) :
    Calls Try.prog 131 #[.slice a n c] w fun e w' => ∃ a' c', e = .returned (.slice a' n c') ∧ Row w' w.heap.size 3 a' c' 1 intR zs ∧ Below w.heap.size w w' := by
  obtain ⟨hn, hc, hm, hr⟩ := h.bounds
  cases a with
  | none =>
    have hz := hr.none_nil
    subst hz
    simp only [List.length_nil] at hn
    subst hn
    clear hs hc hm hr h
    have hnil := run_eqlNil _ _ none 0 c Try.underlying44
    go_enter Try.func131, Try.ntmps131
    go_wp2_with fail
    go_ret
    exact ⟨none, 0, rfl, Row.nil _ _ _ _ _ _, (by repeat' (first | with_reducible exact Below.refl _ _ | with_reducible assumption | with_reducible refine Below.alloc ?_ ?_ _ | with_reducible refine Below.drew ?_ | with_reducible refine Below.setCell ?_ ?_ _ | omega | (simp; omega) | (simp; done)))⟩
  | some ad =>
    have HR := Lib.hid hr
    clear hr h
    have hnil := run_eqlNil _ _ (some ad) n c Try.underlying44
    go_enter Try.func131, Try.ntmps131
    go_wp2_with (at_builtin; refine wpList_append_new w.heap.size rfl _ _ rfl eltInt rfl rfl (HR.out.below (by repeat' (first | with_reducible exact Below.refl _ _ | with_reducible assumption | with_reducible refine Below.alloc ?_ ?_ _ | with_reducible refine Below.drew ?_ | with_reducible refine Below.setCell ?_ ?_ _ | omega | (simp; omega) | (simp; done)))) hn (by simp only [maxLen]; omega) (by omega) (by simp <;> omega) ?_)
    intro a' c' w' q
    go_wp2_with fail
    go_ret
    exact ⟨a', c', rfl, q.row, below_next (by repeat' (first | with_reducible exact Below.refl _ _ | with_reducible assumption | with_reducible refine Below.alloc ?_ ?_ _ | with_reducible refine Below.drew ?_ | with_reducible refine Below.setCell ?_ ?_ _ | omega | (simp; omega) | (simp; done))) q.below⟩
set_option maxHeartbeats 1000000 in
theorem slClipint_c (a : Option Addr) (n c : Nat) (w : World) (hc : n ≤ c) (hm : c ≤ maxLen) :
    Calls Try.prog 130 #[.slice a n c] w fun e w' => e = .returned (.slice a n n) ∧ w = w' := by
  go_enter Try.func130, Try.ntmps130
  go_wp2_with fail
  go_ret
  exact ⟨rfl, rfl⟩
set_option maxHeartbeats 1000000 in
theorem cloneint_c (a : Option Addr) (n c : Nat) (zs : List Int) (w : World) (h : IsSl w (.slice a n c) 1 intR zs) (hs : n ≤ 16777216) :
    Calls Try.prog 113 #[.slice a n c] w (Cloned 3 1 n intR zs w) := by
  have hn := h.bounds.1
  have H := Lib.hid h
  clear h
  go_enter Try.func113, Try.ntmps113
  go_wp2_with fail
  refine (slCloneint_c a n c zs _ H.out hs).mono ?_
  rintro e w1 ⟨a1, c1, rfl, r1, k1⟩
  have hl := r1.len
  have hmx := r1.max
  rw [hn] at hl
  have R1 := Lib.hid r1
  clear r1
  go_wp2_with fail
  refine (slClipint_c a1 n c1 _ hl hmx).mono ?_
  rintro e w2 ⟨rfl, rfl⟩
  have R2 := R1.out.clip
  rw [hn] at R2
  have R3 := Lib.hid R2
  clear R2
  go_wp2_with fail
  go_ret
  exact ⟨a1, rfl, R3.out, k1⟩

set_option maxRecDepth 100000 in
set_option maxHeartbeats 1000000 in
theorem slCloneReq_c (a : Option Addr) (n c : Nat) (zs : List Rq) (w : World) (h : IsSl w (.slice a n c) 5 Rq.cs zs) (hs : n ≤ 16777216) :
    Calls Try.prog 107 #[.slice a n c] w fun e w' => ∃ a' c', e = .returned (.slice a' n c') ∧ Row w' w.heap.size 34 a' c' 5 Rq.cs zs ∧ Below w.heap.size w w' := by
  obtain ⟨hn, hc, hm, hr⟩ := h.bounds
  cases a with
  | none =>
    have hz := hr.none_nil
    subst hz
    simp only [List.length_nil] at hn
    subst hn
    clear hs hc hm hr h
    have hnil := run_eqlNil _ _ none 0 c Try.underlying28
    go_enter Try.func107, Try.ntmps107
    go_wp2_with fail
    go_ret
    exact ⟨none, 0, rfl, Row.nil _ _ _ _ _ _, (by repeat' (first | with_reducible exact Below.refl _ _ | with_reducible assumption | with_reducible refine Below.alloc ?_ ?_ _ | with_reducible refine Below.drew ?_ | with_reducible refine Below.setCell ?_ ?_ _ | omega | (simp; omega) | (simp; done)))⟩
  | some ad =>
    have HR := Lib.hid hr
    clear hr h
    have hnil := run_eqlNil _ _ (some ad) n c Try.underlying28
    go_enter Try.func107, Try.ntmps107
    go_wp2_with (at_builtin; refine wpList_append_new w.heap.size rfl _ _ rfl eltReq rfl rfl (HR.out.below (by repeat' (first | with_reducible exact Below.refl _ _ | with_reducible assumption | with_reducible refine Below.alloc ?_ ?_ _ | with_reducible refine Below.drew ?_ | with_reducible refine Below.setCell ?_ ?_ _ | omega | (simp; omega) | (simp; done)))) hn (by simp only [maxLen]; omega) (by omega) (by simp <;> omega) ?_)
    intro a' c' w' q
    go_wp2_with fail
    go_ret
    exact ⟨a', c', rfl, q.row, below_next (by repeat' (first | with_reducible exact Below.refl _ _ | with_reducible assumption | with_reducible refine Below.alloc ?_ ?_ _ | with_reducible refine Below.drew ?_ | with_reducible refine Below.setCell ?_ ?_ _ | omega | (simp; omega) | (simp; done))) q.below⟩
set_option maxHeartbeats 1000000 in
theorem slClipReq_c (a : Option Addr) (n c : Nat) (w : World) (hc : n ≤ c) (hm : c ≤ maxLen) :
    Calls Try.prog 106 #[.slice a n c] w fun e w' => e = .returned (.slice a n n) ∧ w = w' := by
  go_enter Try.func106, Try.ntmps106
  go_wp2_with fail
  go_ret
  exact ⟨rfl, rfl⟩
set_option maxHeartbeats 1000000 in
theorem cloneReq_c (a : Option Addr) (n c : Nat) (zs : List Rq) (w : World) (h : IsSl w (.slice a n c) 5 Rq.cs zs) (hs : n ≤ 16777216) :
    Calls Try.prog 68 #[.slice a n c] w (Cloned 34 5 n Rq.cs zs w) := by
  have hn := h.bounds.1
  have H := Lib.hid h
  clear h
  go_enter Try.func68, Try.ntmps68
  go_wp2_with fail
  refine (slCloneReq_c a n c zs _ H.out hs).mono ?_
  rintro e w1 ⟨a1, c1, rfl, r1, k1⟩
  have hl := r1.len
  have hmx := r1.max
  rw [hn] at hl
  have R1 := Lib.hid r1
  clear r1
  go_wp2_with fail
  refine (slClipReq_c a1 n c1 _ hl hmx).mono ?_
  rintro e w2 ⟨rfl, rfl⟩
  have R2 := R1.out.clip
  rw [hn] at R2
  have R3 := Lib.hid R2
  clear R2
  go_wp2_with fail
  go_ret
  exact ⟨a1, rfl, R3.out, k1⟩
end Go.Proofs.Ytofedboeggdkaaa

/-! Contracts of l8Copy, l2Copy, and of the program's copyOf; condition: small sizes. -/
namespace Go.Proofs.Ytofedboeggdkaaa
open Go.RowKit Go.Joins

theorem IsSl.rowsAt {α : Type} {w w' : World} {a : Option Addr} {n c k : Nat} {R : α → List Value} {zs : List α} (h : IsSl w (.slice a n c) k R zs) (hb : Below w.heap.size w w') : RowsAt w' a k R zs := h.bounds.2.2.2.below hb

/-- A client's lists in blocks of their own. -/
def OwnAh (w : World) (B : Nat) (v : Value) (z : Ah) : Prop :=
  ∃ a0 c0 a1 c1, v = .agg #[.slice a0 z.dn.length c0, .slice a1 z.wt.length c1, .int .i64 z.bk] ∧ Row w B 34 a0 c0 5 Rq.cs z.dn ∧ Row w B 34 a1 c1 5 Rq.cs z.wt ∧ (∀ g, rowBlk a0 c0 = some g → rowBlk a1 c1 ≠ some g)

set_option maxRecDepth 100000 in
set_option maxHeartbeats 4000000 in
theorem l8Copy_c (z : Ah) (a0 a1 : Option Addr) (n0 n1 c0 c1 : Nat) (w : World) (h0 : IsSl w (.slice a0 n0 c0) 5 Rq.cs z.dn) (h1 : IsSl w (.slice a1 n1 c1) 5 Rq.cs z.wt) (hs0 : n0 ≤ 16777216) (hs1 : n1 ≤ 16777216) :
    Calls Try.prog 62 #[.agg #[.slice a0 n0 c0, .slice a1 n1 c1, .int .i64 z.bk]] w fun e w' => ∃ v, e = .returned v ∧ OwnAh w' w.heap.size v z ∧ Below w.heap.size w w' := by
  have hn0 := h0.bounds.1
  have hn1 := h1.bounds.1
  have H0 := Lib.hid h0
  have H1 := Lib.hid h1
  have hN0 := Lib.hid hn0
  have hN1 := Lib.hid hn1
  clear h0 h1 hn0 hn1
  go_enter Try.func62, Try.ntmps62
  go_wp2_with fail
  obtain ⟨W, hW, sW, aW, bW, kW⟩ := blocks2 w (.cells #[.slice a0 n0 c0, .slice a1 n1 c1, .int .i64 z.bk] 30) (.cells #[.slice none 0 0, .slice none 0 0, .int .i64 0] 30)
  rw [← hW]
  clear hW
  have hcA := cell_of_block aW
  have hcB := cell_of_block bW
  have hfB := unfrozen_of_block bW
  go_region_held3 (fun w' => ((∀ b o, b < w.heap.size + 1 → (w').cell? ⟨b, o, none⟩ = (W).cell? ⟨b, o, none⟩) ∧ Below (w.heap.size + 1) (W) (w')))
    (repeat' first | with_reducible exact KeptB.refl _ _ | with_reducible assumption | with_reducible exact KeptB.weak k6 (by omega) | with_reducible exact KeptB.weak k7 (by omega) | with_reducible refine KeptB.drew ?_ | with_reducible refine KeptB.alloc (by omega) _ ?_ | with_reducible refine KeptB.set (by simp <;> omega) _ ?_)
    (first
     | (refine step_append_new (w.heap.size + 2) (by rfl) (.tmp 3) (.tmp 5) (by rfl) eltReq (by rfl) (by rfl) (H0.out.rowsAt (kW.trans ((by assumption : _ ∧ Below _ _ _).2.mono (by omega)))) hN0.out (by simp only [maxLen]; omega) (by omega) (by rw [← sW]; exact (by assumption : _ ∧ Below _ _ _).2.size) ?_; intro a6 c6 w6 q6; have k6 := KeptB.next (B := W.heap.size) (W := W) (Nat.le_refl _) (by repeat' first | with_reducible exact KeptB.refl _ _ | with_reducible assumption | with_reducible refine KeptB.drew ?_ | with_reducible refine KeptB.alloc (by omega) _ ?_) q6.below; have cz6 := fun i => (k6.1 (w.heap.size + 1) i (by omega)).trans (hcB i); have fz6 : ∀ i, w6.frozen? ⟨w.heap.size + 1, i, none⟩ = false := fun i => (k6.2.frozen (p := ⟨w.heap.size + 1, i, none⟩) (by simp <;> omega)).trans (hfB i))
     | (refine step_append_new (w.heap.size + 2) (by rfl) (.tmp 7) (.tmp 9) (by rfl) eltReq (by rfl) (by rfl) (H1.out.rowsAt (kW.trans ((by assumption : _ ∧ Below _ _ _).2.mono (by omega)))) hN1.out (by simp only [maxLen]; omega) (by omega) (by rw [← sW]; exact (by assumption : _ ∧ Below _ _ _).2.size) ?_; intro a7 c7 w7 q7; have k7 := KeptB.next (B := W.heap.size) (W := W) (Nat.le_refl _) (by repeat' first | with_reducible exact KeptB.refl _ _ | with_reducible assumption | with_reducible refine KeptB.drew ?_ | with_reducible refine KeptB.alloc (by omega) _ ?_) q7.below; have cz7 := fun i => (k7.1 (w.heap.size + 1) i (by omega)).trans (hcB i); have fz7 : ∀ i, w7.frozen? ⟨w.heap.size + 1, i, none⟩ = false := fun i => (k7.2.frozen (p := ⟨w.heap.size + 1, i, none⟩) (by simp <;> omega)).trans (hfB i)))
  all_goals go_wp2_with fail
  all_goals clear aW bW hcA hcB hfB
  all_goals first
    | refine bodyPost_ret (v := .agg #[.slice a6 n0 c6, .slice a7 n1 c7, .int .i64 z.bk]) (by simp [results, Try.results62, go_sem, cz7]) rfl ?_
    | refine bodyPost_ret (v := .agg #[.slice a6 n0 c6, .slice a7 n1 c7, .int .i64 z.bk]) (by simp [results, Try.results62, go_sem, cz6]) rfl ?_
  all_goals clear cz6 cz7 fz6 fz7
  all_goals rw [← hN0.out, ← hN1.out]
  all_goals refine ⟨_, rfl, ⟨a6, c6, a7, c7, rfl, Row.low (B := w.heap.size + 2) ?_ (by omega), Row.low (B := w.heap.size + 2) ?_ (by omega), ?_⟩, ?_⟩
  all_goals first
    | (show Row _ _ _ a6 _ _ _ _; (repeat' (first | exact q6.row | with_reducible refine Row.setOther ?_ (by simp <;> omega) _ | with_reducible refine Row.alloc ?_ _ | with_reducible refine Row.drew ?_ | with_reducible refine Row.below ?_ q7.below)); done)
    | (show Row _ _ _ a7 _ _ _ _; (repeat' (first | exact q7.row | with_reducible refine Row.setOther ?_ (by simp <;> omega) _ | with_reducible refine Row.alloc ?_ _ | with_reducible refine Row.drew ?_ | with_reducible refine Row.below ?_ q6.below)); done)
    | (show ∀ g, _ → _; refine fun g h1 h2 => ?_; first | exact q7.apart q6.row g h2 h1 | exact q7.apart (q6.row.alloc _) g h2 h1 | exact q7.apart (q6.row.alloc _).drew g h2 h1)
    | (refine kW.trans ?_; (repeat' (first | with_reducible exact k7.2.mono (by omega) | with_reducible exact k6.2.mono (by omega) | with_reducible refine Below.setCell ?_ (by simp <;> omega) _)); done)

/-- A game's lists in blocks of their own. -/
def OwnGm (w : World) (B : Nat) (v : Value) (z : Gm) : Prop :=
  ∃ a0 c0 a1 c1 a2 c2, v = .agg #[.slice a0 z.es.length c0, .slice a1 z.fl.length c1, .slice a2 z.la.length c2] ∧ Row w B 92 a0 c0 5 Rq.cs z.es ∧ Row w B 3 a1 c1 1 intR z.fl ∧ Row w B 3 a2 c2 1 intR z.la ∧
    (∀ g, rowBlk a0 c0 = some g → rowBlk a1 c1 ≠ some g) ∧ (∀ g, rowBlk a0 c0 = some g → rowBlk a2 c2 ≠ some g) ∧ (∀ g, rowBlk a1 c1 = some g → rowBlk a2 c2 ≠ some g)

/-- What clone leaves, as what append leaves. -/
theorem Cloned.row {α : Type} {el k n : Nat} {R : α → List Value} {zs : List α} {w w' : World} {e : Ending} (h : Cloned el k n R zs w e w') : ∃ a', e = .returned (.slice a' n n) ∧ Row w' w.heap.size el a' n k R zs ∧ Below w.heap.size w w' := h
theorem Row.apart {α β : Type} {w : World} {B e k cap e2 k2 cap2 : Nat} {B2 : Nat} {a a2 : Option Addr} {R : α → List Value} {R2 : β → List Value} {zs : List α} {ys : List β} {wo : World} (h : Row w B e a cap k R zs) (r : Row wo B2 e2 a2 cap2 k2 R2 ys) (hs : wo.heap.size ≤ B) : ∀ g, rowBlk a2 cap2 = some g → rowBlk a cap ≠ some g := by
  intro g h1 h2
  have := (r.blk h1).2
  have := (h.blk h2).1
  omega
end Go.Proofs.Ytofedboeggdkaaa

/-! Contract of l2Copy; condition: small sizes. -/
namespace Go.Proofs.Ytofedboeggdkaaa
open Go.RowKit Go.Joins

structure Fin3 where
  x3 : Value
  x7 : Value
  x11 : Value
  a6 : Option Addr
  a8 : Option Addr
  a9 : Option Addr
  c6 : Nat
  c8 : Nat
  c9 : Nat
theorem introFin {X : Type} {P : Program} {md : Region.Mode} {ops : Array Oper} {Q : Exit → Act → World → Prop} {S : World → Prop} {fuel0 : Nat} {listed0 : Array Bool} {ac0 : Act} {w0 : World} (fuel : Nat) (listed : Array Bool) (A : X → Act) (C : X → World → Prop)
    (hfin : ∀ x w', C x w' → wpAnyH P md ops Q S fuel listed (A x) w') (h : (∀ x w' l, l = listed → C x w' → wpAnyH P md ops Q S fuel l (A x) w') → wpAnyH P md ops Q S fuel0 listed0 ac0 w0) : wpAnyH P md ops Q S fuel0 listed0 ac0 w0 :=
  h fun x w' _ e c => e ▸ hfin x w' c

set_option maxRecDepth 100000 in
set_option maxHeartbeats 16000000 in
theorem l2Copy_c (z : Gm) (a0 a1 a2 : Option Addr) (n0 n1 n2 c0 c1 c2 : Nat) (w : World) (h0 : IsSl w (.slice a0 n0 c0) 5 Rq.cs z.es) (h1 : IsSl w (.slice a1 n1 c1) 1 intR z.fl) (h2 : IsSl w (.slice a2 n2 c2) 1 intR z.la) (hs0 : n0 ≤ 16777216) (hs1 : n1 ≤ 16777216) (hs2 : n2 ≤ 16777216) :
    Calls Try.prog 88 #[.agg #[.slice a0 n0 c0, .slice a1 n1 c1, .slice a2 n2 c2]] w fun e w' => ∃ v, e = .returned v ∧ OwnGm w' w.heap.size v z ∧ Below w.heap.size w w' := by
  have hn0 := h0.bounds.1
  have hn1 := h1.bounds.1
  have hn2 := h2.bounds.1
  have H0 := Lib.hid h0
  have H1 := Lib.hid h1
  have H2 := Lib.hid h2
  have hN0 := Lib.hid hn0
  have hN1 := Lib.hid hn1
  have hN2 := Lib.hid hn2
  clear h0 h1 h2 hn0 hn1 hn2
  go_enter Try.func88, Try.ntmps88
  go_wp2_with fail
  obtain ⟨W, hW, sW, aW, bW, kW⟩ := blocks2 w (.cells #[.slice a0 n0 c0, .slice a1 n1 c1, .slice a2 n2 c2] 46) (.cells #[.slice none 0 0, .slice none 0 0, .slice none 0 0] 46)
  rw [← hW]
  clear hW
  have hcA := cell_of_block aW
  have HB := Lib.hid bW
  clear bW
  refine wp_region_held_drew (S := fun w' => ((∀ b o, b < w.heap.size + 1 → (w').cell? ⟨b, o, none⟩ = (W).cell? ⟨b, o, none⟩) ∧ Below (w.heap.size + 1) (W) (w'))) (by kernel_rfl) (KeptB.drew (KeptB.refl _ _)) (fun hHeld => ?_)
  refine wpAnyH_take (i := 1) (oi := _) (v := ?_) (by (simp only [List.getElem?_toArray]; rfl)) (by kernel_rfl) (by kernel_rfl) (by kernel_rfl) (by exact fun _ _ _ h => h) (Or.inl ⟨by rfl, ?_⟩) (by assumption) ?_
  rotate_left
  · intro wS hSw
    go_simp
    all_goals first | with_reducible rfl | rw [if_neg (by omega)]
  simp only [Act.put, List.setIfInBounds_toArray, List.set]
  refine wpAnyH_take (i := 2) (oi := _) (v := ?_) (by (simp only [List.getElem?_toArray]; rfl)) (by kernel_rfl) (by kernel_rfl) (by kernel_rfl) (by exact fun _ _ _ h => h) (Or.inl ⟨by rfl, ?_⟩) (by assumption) ?_
  rotate_left
  · intro wS hSw
    go_simp
    all_goals first | with_reducible rfl | rw [if_neg (by omega)]
  simp only [Act.put, List.setIfInBounds_toArray, List.set]
  refine wpAnyH_take (i := 5) (oi := _) (v := ?_) (by (simp only [List.getElem?_toArray]; rfl)) (by kernel_rfl) (by kernel_rfl) (by kernel_rfl) (by exact fun _ _ _ h => h) (Or.inl ⟨by rfl, ?_⟩) (by assumption) ?_
  rotate_left
  · intro wS hSw
    go_simp
    all_goals first | with_reducible rfl | rw [if_neg (by omega)]
  simp only [Act.put, List.setIfInBounds_toArray, List.set]
  refine wpAnyH_take (i := 6) (oi := _) (v := ?_) (by (simp only [List.getElem?_toArray]; rfl)) (by kernel_rfl) (by kernel_rfl) (by kernel_rfl) (by exact fun _ _ _ h => h) (Or.inl ⟨by rfl, ?_⟩) (by assumption) ?_
  rotate_left
  · intro wS hSw
    go_simp
    all_goals first | with_reducible rfl | rw [if_neg (by omega)]
  simp only [Act.put, List.setIfInBounds_toArray, List.set]
  refine wpAnyH_take (i := 9) (oi := _) (v := ?_) (by (simp only [List.getElem?_toArray]; rfl)) (by kernel_rfl) (by kernel_rfl) (by kernel_rfl) (by exact fun _ _ _ h => h) (Or.inl ⟨by rfl, ?_⟩) (by assumption) ?_
  rotate_left
  · intro wS hSw
    go_simp
    all_goals first | with_reducible rfl | rw [if_neg (by omega)]
  simp only [Act.put, List.setIfInBounds_toArray, List.set]
  refine wpAnyH_take (i := 10) (oi := _) (v := ?_) (by (simp only [List.getElem?_toArray]; rfl)) (by kernel_rfl) (by kernel_rfl) (by kernel_rfl) (by exact fun _ _ _ h => h) (Or.inl ⟨by rfl, ?_⟩) (by assumption) ?_
  rotate_left
  · intro wS hSw
    go_simp
    all_goals first | with_reducible rfl | rw [if_neg (by omega)]
  simp only [Act.put, List.setIfInBounds_toArray, List.set]
  clear aW hcA hHeld
  have k := Lib.hid (KeptB.drew (KeptB.refl W.heap.size W))
  refine introFin (X := Fin3) 2 #[true, true, true, true, true, true, true, true, true, true, true, true, false, false]
    (fun x => ⟨#[.agg #[.slice a0 n0 c0, .slice a1 n1 c1, .slice a2 n2 c2], .pointer (some ⟨w.heap.size, 0, none⟩), .pointer (some ⟨w.heap.size + 1, 0, none⟩), x.x3, .pointer (some ⟨w.heap.size, 0, none⟩), .slice a0 n0 c0, .slice x.a6 n0 x.c6, x.x7, .pointer (some ⟨w.heap.size, 1, none⟩), .slice a1 n1 c1, .slice x.a8 n1 x.c8, x.x11, .pointer (some ⟨w.heap.size, 2, none⟩), .slice a2 n2 c2, .slice x.a9 n2 x.c9, undef], []⟩)
    (fun x w' => ((∀ b o, b < W.heap.size → (w').cell? ⟨b, o, none⟩ = (W).cell? ⟨b, o, none⟩) ∧ Below (W.heap.size) (W) (w')) ∧ Row w' (w.heap.size + 2) 92 x.a6 x.c6 5 Rq.cs z.es ∧ Row w' (w.heap.size + 2) 3 x.a8 x.c8 1 intR z.fl ∧ Row w' (w.heap.size + 2) 3 x.a9 x.c9 1 intR z.la ∧
      (∀ g, rowBlk x.a8 x.c8 = some g → rowBlk x.a6 x.c6 ≠ some g) ∧ (∀ g, rowBlk x.a9 x.c9 = some g → rowBlk x.a6 x.c6 ≠ some g) ∧ (∀ g, rowBlk x.a9 x.c9 = some g → rowBlk x.a8 x.c8 ≠ some g)) ?_ (fun hfin => ?_)
  · rintro ⟨x3, x7, x11, a6, a8, a9, c6, c8, c9⟩ w9 ⟨k9, r6, r8, r9, p68, p69, p89⟩
    simp only at k9 r6 r8 r9 p68 p69 p89 ⊢
    have cz9 := fun i => (k9.1 (w.heap.size + 1) i (by omega)).trans (cell_of_block HB.out i)
    have fz9 : ∀ i, w9.frozen? ⟨w.heap.size + 1, i, none⟩ = false := fun i => (k9.2.frozen (p := ⟨w.heap.size + 1, i, none⟩) (by simp <;> omega)).trans (unfrozen_of_block HB.out i)
    have kS := KeptB.weak k9 (show w.heap.size + 1 ≤ W.heap.size by omega)
    have K9 := Lib.hid k9
    clear k9
    refine wpAnyH_take (i := 12) (oi := _) (v := ?_) (by (simp only [List.getElem?_toArray]; rfl)) (by kernel_rfl) (by kernel_rfl) (by kernel_rfl) (by exact fun _ _ _ h => h) (Or.inl ⟨by rfl, ?_⟩) (by assumption) ?_
    rotate_left
    · intro wS hSw
      go_simp
      all_goals first | with_reducible rfl | rw [if_neg (by omega)]
    simp only [Act.put, List.setIfInBounds_toArray, List.set]
    refine wpAnyH_ready (rs := [13]) (by kernel_rfl) (by simp) ?_
    refine AllReadyH.cons (o := _) (by (simp only [List.getElem?_toArray]; rfl)) (fun K hK => ?_) AllReadyH.nil
    go_simp
    refine hK.out _ _ (KeptB.set (by simp) _ (KeptB.set (by simp) _ (KeptB.set (by simp) _ kS))) (fun hHeld => ?_)
    clear hK K
    try simp only [Act.put, List.setIfInBounds_toArray, List.set]
    refine wpAnyH_done (by kernel_rfl) ?_ _
    go_wp2_with fail
    refine bodyPost_ret (v := .agg #[.slice a6 n0 c6, .slice a8 n1 c8, .slice a9 n2 c9]) (by simp [results, Try.results88, go_sem, cz9]) rfl ?_
    rw [← hN0.out, ← hN1.out, ← hN2.out]
    refine ⟨_, rfl, ⟨a6, c6, a8, c8, a9, c9, rfl, Row.low (B := w.heap.size + 2) ?_ (by omega), Row.low (B := w.heap.size + 2) ?_ (by omega), Row.low (B := w.heap.size + 2) ?_ (by omega), fun g u v => p68 g v u, fun g u v => p69 g v u, fun g u v => p89 g v u⟩, ?_⟩
    · exact ((r6.setOther (by simp) _).setOther (by simp) _).setOther (by simp) _
    · exact ((r8.setOther (by simp) _).setOther (by simp) _).setOther (by simp) _
    · exact ((r9.setOther (by simp) _).setOther (by simp) _).setOther (by simp) _
    · exact kW.trans ((((K9.out.2.mono (by omega)).setCell (by simp) _).setCell (by simp) _).setCell (by simp) _)
  refine wpAnyH_ready (rs := [0, 4, 8]) (by kernel_rfl) (by simp) ?_
  refine AllReadyH.cons (o := _) (by (simp only [List.getElem?_toArray]; rfl)) (fun K hK => ?_) ?_
  · skip
    refine step_build0 (by rfl) (by rfl) eltEnt ?_
    have kb0k := Lib.hid (KeptB.alloc (Nat.le_refl _) (.cells #[] 92) k.out)
    refine hK.out _ _ (KeptB.weak kb0k.out (by omega)) (fun hHeld => ?_)
    clear hK K hHeld
    simp only [Act.put, List.setIfInBounds_toArray, List.set]
    refine wpAnyH_ready (rs := [3, 4, 8]) (by kernel_rfl) (by simp) ?_
    refine AllReadyH.cons (o := _) (by (simp only [List.getElem?_toArray]; rfl)) (fun K hK => ?_) ?_
    · skip
      refine step_append_new (w.heap.size + 2) (by rfl) (.tmp 3) (.tmp 5) (by rfl) eltEnt (by rfl) (by rfl) (H0.out.rowsAt (kW.trans (kb0k.out.2.mono (by omega)))) hN0.out (by simp only [maxLen]; omega) (by omega) (by rw [← sW]; exact kb0k.out.2.size) ?_
      intro a6 c6 w6 q6
      have ka0kb0k := Lib.hid (KeptB.next (B := W.heap.size) (W := W) (Nat.le_refl _) kb0k.out q6.below)
      refine hK.out _ _ (KeptB.weak ka0kb0k.out (by omega)) (fun hHeld => ?_)
      clear hK K hHeld
      simp only [Act.put, List.setIfInBounds_toArray, List.set]
      refine wpAnyH_ready (rs := [4, 8]) (by kernel_rfl) (by simp) ?_
      refine AllReadyH.cons (o := _) (by (simp only [List.getElem?_toArray]; rfl)) (fun K hK => ?_) ?_
      · skip
        refine step_build0 (by rfl) (by rfl) eltInt ?_
        have kb1ka0kb0k := Lib.hid (KeptB.alloc (Nat.le_refl _) (.cells #[] 3) ka0kb0k.out)
        refine hK.out _ _ (KeptB.weak kb1ka0kb0k.out (by omega)) (fun hHeld => ?_)
        clear hK K hHeld
        simp only [Act.put, List.setIfInBounds_toArray, List.set]
        refine wpAnyH_ready (rs := [7, 8]) (by kernel_rfl) (by simp) ?_
        refine AllReadyH.cons (o := _) (by (simp only [List.getElem?_toArray]; rfl)) (fun K hK => ?_) ?_
        · skip
          refine step_append_new (w.heap.size + 2) (by rfl) (.tmp 7) (.tmp 9) (by rfl) eltInt (by rfl) (by rfl) (H1.out.rowsAt (kW.trans (kb1ka0kb0k.out.2.mono (by omega)))) hN1.out (by simp only [maxLen]; omega) (by omega) (by rw [← sW]; exact kb1ka0kb0k.out.2.size) ?_
          intro a8 c8 w8 q8
          have p68 := q8.apart ((q6.row).alloc _)
          have ka1kb1ka0kb0k := Lib.hid (KeptB.next (B := W.heap.size) (W := W) (Nat.le_refl _) kb1ka0kb0k.out q8.below)
          refine hK.out _ _ (KeptB.weak ka1kb1ka0kb0k.out (by omega)) (fun hHeld => ?_)
          clear hK K hHeld
          simp only [Act.put, List.setIfInBounds_toArray, List.set]
          refine wpAnyH_ready (rs := [8]) (by kernel_rfl) (by simp) ?_
          refine AllReadyH.cons (o := _) (by (simp only [List.getElem?_toArray]; rfl)) (fun K hK => ?_) ?_
          · skip
            refine step_build0 (by rfl) (by rfl) eltInt ?_
            have kb2ka1kb1ka0kb0k := Lib.hid (KeptB.alloc (Nat.le_refl _) (.cells #[] 3) ka1kb1ka0kb0k.out)
            refine hK.out _ _ (KeptB.weak kb2ka1kb1ka0kb0k.out (by omega)) (fun hHeld => ?_)
            clear hK K hHeld
            simp only [Act.put, List.setIfInBounds_toArray, List.set]
            refine wpAnyH_ready (rs := [11]) (by kernel_rfl) (by simp) ?_
            refine AllReadyH.cons (o := _) (by (simp only [List.getElem?_toArray]; rfl)) (fun K hK => ?_) ?_
            · skip
              refine step_append_new (w.heap.size + 2) (by rfl) (.tmp 11) (.tmp 13) (by rfl) eltInt (by rfl) (by rfl) (H2.out.rowsAt (kW.trans (kb2ka1kb1ka0kb0k.out.2.mono (by omega)))) hN2.out (by simp only [maxLen]; omega) (by omega) (by rw [← sW]; exact kb2ka1kb1ka0kb0k.out.2.size) ?_
              intro a9 c9 w9 q9
              have p69 := q9.apart ((((q6.row).alloc _).below q8.below).alloc _)
              have p89 := q9.apart ((q8.row).alloc _)
              have ka2kb2ka1kb1ka0kb0k := Lib.hid (KeptB.next (B := W.heap.size) (W := W) (Nat.le_refl _) kb2ka1kb1ka0kb0k.out q9.below)
              refine hK.out _ _ (KeptB.weak ka2kb2ka1kb1ka0kb0k.out (by omega)) (fun hHeld => ?_)
              clear hK K hHeld
              simp only [Act.put, List.setIfInBounds_toArray, List.set]
              exact hfin ⟨_, _, _, a6, a8, a9, c6, c8, c9⟩ _ _ (by kernel_rfl) ⟨ka2kb2ka1kb1ka0kb0k.out, ((((q6.row).alloc _).below q8.below).alloc _).below q9.below, ((q8.row).alloc _).below q9.below, q9.row, p68, p69, p89⟩
            exact AllReadyH.nil
          exact AllReadyH.nil
        refine AllReadyH.cons (o := _) (by (simp only [List.getElem?_toArray]; rfl)) (fun K hK => ?_) ?_
        · skip
          refine step_build0 (by rfl) (by rfl) eltInt ?_
          have kb2kb1ka0kb0k := Lib.hid (KeptB.alloc (Nat.le_refl _) (.cells #[] 3) kb1ka0kb0k.out)
          refine hK.out _ _ (KeptB.weak kb2kb1ka0kb0k.out (by omega)) (fun hHeld => ?_)
          clear hK K hHeld
          simp only [Act.put, List.setIfInBounds_toArray, List.set]
          refine wpAnyH_ready (rs := [7]) (by kernel_rfl) (by simp) ?_
          refine AllReadyH.cons (o := _) (by (simp only [List.getElem?_toArray]; rfl)) (fun K hK => ?_) ?_
          · skip
            refine step_append_new (w.heap.size + 2) (by rfl) (.tmp 7) (.tmp 9) (by rfl) eltInt (by rfl) (by rfl) (H1.out.rowsAt (kW.trans (kb2kb1ka0kb0k.out.2.mono (by omega)))) hN1.out (by simp only [maxLen]; omega) (by omega) (by rw [← sW]; exact kb2kb1ka0kb0k.out.2.size) ?_
            intro a8 c8 w8 q8
            have p68 := q8.apart (((q6.row).alloc _).alloc _)
            have ka1kb2kb1ka0kb0k := Lib.hid (KeptB.next (B := W.heap.size) (W := W) (Nat.le_refl _) kb2kb1ka0kb0k.out q8.below)
            refine hK.out _ _ (KeptB.weak ka1kb2kb1ka0kb0k.out (by omega)) (fun hHeld => ?_)
            clear hK K hHeld
            simp only [Act.put, List.setIfInBounds_toArray, List.set]
            refine wpAnyH_ready (rs := [11]) (by kernel_rfl) (by simp) ?_
            refine AllReadyH.cons (o := _) (by (simp only [List.getElem?_toArray]; rfl)) (fun K hK => ?_) ?_
            · skip
              refine step_append_new (w.heap.size + 2) (by rfl) (.tmp 11) (.tmp 13) (by rfl) eltInt (by rfl) (by rfl) (H2.out.rowsAt (kW.trans (ka1kb2kb1ka0kb0k.out.2.mono (by omega)))) hN2.out (by simp only [maxLen]; omega) (by omega) (by rw [← sW]; exact ka1kb2kb1ka0kb0k.out.2.size) ?_
              intro a9 c9 w9 q9
              have p69 := q9.apart ((((q6.row).alloc _).alloc _).below q8.below)
              have p89 := q9.apart (q8.row)
              have ka2ka1kb2kb1ka0kb0k := Lib.hid (KeptB.next (B := W.heap.size) (W := W) (Nat.le_refl _) ka1kb2kb1ka0kb0k.out q9.below)
              refine hK.out _ _ (KeptB.weak ka2ka1kb2kb1ka0kb0k.out (by omega)) (fun hHeld => ?_)
              clear hK K hHeld
              simp only [Act.put, List.setIfInBounds_toArray, List.set]
              exact hfin ⟨_, _, _, a6, a8, a9, c6, c8, c9⟩ _ _ (by kernel_rfl) ⟨ka2ka1kb2kb1ka0kb0k.out, ((((q6.row).alloc _).alloc _).below q8.below).below q9.below, (q8.row).below q9.below, q9.row, p68, p69, p89⟩
            exact AllReadyH.nil
          exact AllReadyH.nil
        exact AllReadyH.nil
      refine AllReadyH.cons (o := _) (by (simp only [List.getElem?_toArray]; rfl)) (fun K hK => ?_) ?_
      · skip
        refine step_build0 (by rfl) (by rfl) eltInt ?_
        have kb2ka0kb0k := Lib.hid (KeptB.alloc (Nat.le_refl _) (.cells #[] 3) ka0kb0k.out)
        refine hK.out _ _ (KeptB.weak kb2ka0kb0k.out (by omega)) (fun hHeld => ?_)
        clear hK K hHeld
        simp only [Act.put, List.setIfInBounds_toArray, List.set]
        refine wpAnyH_ready (rs := [4]) (by kernel_rfl) (by simp) ?_
        refine AllReadyH.cons (o := _) (by (simp only [List.getElem?_toArray]; rfl)) (fun K hK => ?_) ?_
        · skip
          refine step_build0 (by rfl) (by rfl) eltInt ?_
          have kb1kb2ka0kb0k := Lib.hid (KeptB.alloc (Nat.le_refl _) (.cells #[] 3) kb2ka0kb0k.out)
          refine hK.out _ _ (KeptB.weak kb1kb2ka0kb0k.out (by omega)) (fun hHeld => ?_)
          clear hK K hHeld
          simp only [Act.put, List.setIfInBounds_toArray, List.set]
          refine wpAnyH_ready (rs := [7]) (by kernel_rfl) (by simp) ?_
          refine AllReadyH.cons (o := _) (by (simp only [List.getElem?_toArray]; rfl)) (fun K hK => ?_) ?_
          · skip
            refine step_append_new (w.heap.size + 2) (by rfl) (.tmp 7) (.tmp 9) (by rfl) eltInt (by rfl) (by rfl) (H1.out.rowsAt (kW.trans (kb1kb2ka0kb0k.out.2.mono (by omega)))) hN1.out (by simp only [maxLen]; omega) (by omega) (by rw [← sW]; exact kb1kb2ka0kb0k.out.2.size) ?_
            intro a8 c8 w8 q8
            have p68 := q8.apart (((q6.row).alloc _).alloc _)
            have ka1kb1kb2ka0kb0k := Lib.hid (KeptB.next (B := W.heap.size) (W := W) (Nat.le_refl _) kb1kb2ka0kb0k.out q8.below)
            refine hK.out _ _ (KeptB.weak ka1kb1kb2ka0kb0k.out (by omega)) (fun hHeld => ?_)
            clear hK K hHeld
            simp only [Act.put, List.setIfInBounds_toArray, List.set]
            refine wpAnyH_ready (rs := [11]) (by kernel_rfl) (by simp) ?_
            refine AllReadyH.cons (o := _) (by (simp only [List.getElem?_toArray]; rfl)) (fun K hK => ?_) ?_
            · skip
              refine step_append_new (w.heap.size + 2) (by rfl) (.tmp 11) (.tmp 13) (by rfl) eltInt (by rfl) (by rfl) (H2.out.rowsAt (kW.trans (ka1kb1kb2ka0kb0k.out.2.mono (by omega)))) hN2.out (by simp only [maxLen]; omega) (by omega) (by rw [← sW]; exact ka1kb1kb2ka0kb0k.out.2.size) ?_
              intro a9 c9 w9 q9
              have p69 := q9.apart ((((q6.row).alloc _).alloc _).below q8.below)
              have p89 := q9.apart (q8.row)
              have ka2ka1kb1kb2ka0kb0k := Lib.hid (KeptB.next (B := W.heap.size) (W := W) (Nat.le_refl _) ka1kb1kb2ka0kb0k.out q9.below)
              refine hK.out _ _ (KeptB.weak ka2ka1kb1kb2ka0kb0k.out (by omega)) (fun hHeld => ?_)
              clear hK K hHeld
              simp only [Act.put, List.setIfInBounds_toArray, List.set]
              exact hfin ⟨_, _, _, a6, a8, a9, c6, c8, c9⟩ _ _ (by kernel_rfl) ⟨ka2ka1kb1kb2ka0kb0k.out, ((((q6.row).alloc _).alloc _).below q8.below).below q9.below, (q8.row).below q9.below, q9.row, p68, p69, p89⟩
            exact AllReadyH.nil
          exact AllReadyH.nil
        exact AllReadyH.nil
      exact AllReadyH.nil
    refine AllReadyH.cons (o := _) (by (simp only [List.getElem?_toArray]; rfl)) (fun K hK => ?_) ?_
    · skip
      refine step_build0 (by rfl) (by rfl) eltInt ?_
      have kb1kb0k := Lib.hid (KeptB.alloc (Nat.le_refl _) (.cells #[] 3) kb0k.out)
      refine hK.out _ _ (KeptB.weak kb1kb0k.out (by omega)) (fun hHeld => ?_)
      clear hK K hHeld
      simp only [Act.put, List.setIfInBounds_toArray, List.set]
      refine wpAnyH_ready (rs := [3, 8]) (by kernel_rfl) (by simp) ?_
      refine AllReadyH.cons (o := _) (by (simp only [List.getElem?_toArray]; rfl)) (fun K hK => ?_) ?_
      · skip
        refine step_append_new (w.heap.size + 2) (by rfl) (.tmp 3) (.tmp 5) (by rfl) eltEnt (by rfl) (by rfl) (H0.out.rowsAt (kW.trans (kb1kb0k.out.2.mono (by omega)))) hN0.out (by simp only [maxLen]; omega) (by omega) (by rw [← sW]; exact kb1kb0k.out.2.size) ?_
        intro a6 c6 w6 q6
        have ka0kb1kb0k := Lib.hid (KeptB.next (B := W.heap.size) (W := W) (Nat.le_refl _) kb1kb0k.out q6.below)
        refine hK.out _ _ (KeptB.weak ka0kb1kb0k.out (by omega)) (fun hHeld => ?_)
        clear hK K hHeld
        simp only [Act.put, List.setIfInBounds_toArray, List.set]
        refine wpAnyH_ready (rs := [7, 8]) (by kernel_rfl) (by simp) ?_
        refine AllReadyH.cons (o := _) (by (simp only [List.getElem?_toArray]; rfl)) (fun K hK => ?_) ?_
        · skip
          refine step_append_new (w.heap.size + 2) (by rfl) (.tmp 7) (.tmp 9) (by rfl) eltInt (by rfl) (by rfl) (H1.out.rowsAt (kW.trans (ka0kb1kb0k.out.2.mono (by omega)))) hN1.out (by simp only [maxLen]; omega) (by omega) (by rw [← sW]; exact ka0kb1kb0k.out.2.size) ?_
          intro a8 c8 w8 q8
          have p68 := q8.apart (q6.row)
          have ka1ka0kb1kb0k := Lib.hid (KeptB.next (B := W.heap.size) (W := W) (Nat.le_refl _) ka0kb1kb0k.out q8.below)
          refine hK.out _ _ (KeptB.weak ka1ka0kb1kb0k.out (by omega)) (fun hHeld => ?_)
          clear hK K hHeld
          simp only [Act.put, List.setIfInBounds_toArray, List.set]
          refine wpAnyH_ready (rs := [8]) (by kernel_rfl) (by simp) ?_
          refine AllReadyH.cons (o := _) (by (simp only [List.getElem?_toArray]; rfl)) (fun K hK => ?_) ?_
          · skip
            refine step_build0 (by rfl) (by rfl) eltInt ?_
            have kb2ka1ka0kb1kb0k := Lib.hid (KeptB.alloc (Nat.le_refl _) (.cells #[] 3) ka1ka0kb1kb0k.out)
            refine hK.out _ _ (KeptB.weak kb2ka1ka0kb1kb0k.out (by omega)) (fun hHeld => ?_)
            clear hK K hHeld
            simp only [Act.put, List.setIfInBounds_toArray, List.set]
            refine wpAnyH_ready (rs := [11]) (by kernel_rfl) (by simp) ?_
            refine AllReadyH.cons (o := _) (by (simp only [List.getElem?_toArray]; rfl)) (fun K hK => ?_) ?_
            · skip
              refine step_append_new (w.heap.size + 2) (by rfl) (.tmp 11) (.tmp 13) (by rfl) eltInt (by rfl) (by rfl) (H2.out.rowsAt (kW.trans (kb2ka1ka0kb1kb0k.out.2.mono (by omega)))) hN2.out (by simp only [maxLen]; omega) (by omega) (by rw [← sW]; exact kb2ka1ka0kb1kb0k.out.2.size) ?_
              intro a9 c9 w9 q9
              have p69 := q9.apart (((q6.row).below q8.below).alloc _)
              have p89 := q9.apart ((q8.row).alloc _)
              have ka2kb2ka1ka0kb1kb0k := Lib.hid (KeptB.next (B := W.heap.size) (W := W) (Nat.le_refl _) kb2ka1ka0kb1kb0k.out q9.below)
              refine hK.out _ _ (KeptB.weak ka2kb2ka1ka0kb1kb0k.out (by omega)) (fun hHeld => ?_)
              clear hK K hHeld
              simp only [Act.put, List.setIfInBounds_toArray, List.set]
              exact hfin ⟨_, _, _, a6, a8, a9, c6, c8, c9⟩ _ _ (by kernel_rfl) ⟨ka2kb2ka1ka0kb1kb0k.out, (((q6.row).below q8.below).alloc _).below q9.below, ((q8.row).alloc _).below q9.below, q9.row, p68, p69, p89⟩
            exact AllReadyH.nil
          exact AllReadyH.nil
        refine AllReadyH.cons (o := _) (by (simp only [List.getElem?_toArray]; rfl)) (fun K hK => ?_) ?_
        · skip
          refine step_build0 (by rfl) (by rfl) eltInt ?_
          have kb2ka0kb1kb0k := Lib.hid (KeptB.alloc (Nat.le_refl _) (.cells #[] 3) ka0kb1kb0k.out)
          refine hK.out _ _ (KeptB.weak kb2ka0kb1kb0k.out (by omega)) (fun hHeld => ?_)
          clear hK K hHeld
          simp only [Act.put, List.setIfInBounds_toArray, List.set]
          refine wpAnyH_ready (rs := [7]) (by kernel_rfl) (by simp) ?_
          refine AllReadyH.cons (o := _) (by (simp only [List.getElem?_toArray]; rfl)) (fun K hK => ?_) ?_
          · skip
            refine step_append_new (w.heap.size + 2) (by rfl) (.tmp 7) (.tmp 9) (by rfl) eltInt (by rfl) (by rfl) (H1.out.rowsAt (kW.trans (kb2ka0kb1kb0k.out.2.mono (by omega)))) hN1.out (by simp only [maxLen]; omega) (by omega) (by rw [← sW]; exact kb2ka0kb1kb0k.out.2.size) ?_
            intro a8 c8 w8 q8
            have p68 := q8.apart ((q6.row).alloc _)
            have ka1kb2ka0kb1kb0k := Lib.hid (KeptB.next (B := W.heap.size) (W := W) (Nat.le_refl _) kb2ka0kb1kb0k.out q8.below)
            refine hK.out _ _ (KeptB.weak ka1kb2ka0kb1kb0k.out (by omega)) (fun hHeld => ?_)
            clear hK K hHeld
            simp only [Act.put, List.setIfInBounds_toArray, List.set]
            refine wpAnyH_ready (rs := [11]) (by kernel_rfl) (by simp) ?_
            refine AllReadyH.cons (o := _) (by (simp only [List.getElem?_toArray]; rfl)) (fun K hK => ?_) ?_
            · skip
              refine step_append_new (w.heap.size + 2) (by rfl) (.tmp 11) (.tmp 13) (by rfl) eltInt (by rfl) (by rfl) (H2.out.rowsAt (kW.trans (ka1kb2ka0kb1kb0k.out.2.mono (by omega)))) hN2.out (by simp only [maxLen]; omega) (by omega) (by rw [← sW]; exact ka1kb2ka0kb1kb0k.out.2.size) ?_
              intro a9 c9 w9 q9
              have p69 := q9.apart (((q6.row).alloc _).below q8.below)
              have p89 := q9.apart (q8.row)
              have ka2ka1kb2ka0kb1kb0k := Lib.hid (KeptB.next (B := W.heap.size) (W := W) (Nat.le_refl _) ka1kb2ka0kb1kb0k.out q9.below)
              refine hK.out _ _ (KeptB.weak ka2ka1kb2ka0kb1kb0k.out (by omega)) (fun hHeld => ?_)
              clear hK K hHeld
              simp only [Act.put, List.setIfInBounds_toArray, List.set]
              exact hfin ⟨_, _, _, a6, a8, a9, c6, c8, c9⟩ _ _ (by kernel_rfl) ⟨ka2ka1kb2ka0kb1kb0k.out, (((q6.row).alloc _).below q8.below).below q9.below, (q8.row).below q9.below, q9.row, p68, p69, p89⟩
            exact AllReadyH.nil
          exact AllReadyH.nil
        exact AllReadyH.nil
      refine AllReadyH.cons (o := _) (by (simp only [List.getElem?_toArray]; rfl)) (fun K hK => ?_) ?_
      · skip
        refine step_build0 (by rfl) (by rfl) eltInt ?_
        have kb2kb1kb0k := Lib.hid (KeptB.alloc (Nat.le_refl _) (.cells #[] 3) kb1kb0k.out)
        refine hK.out _ _ (KeptB.weak kb2kb1kb0k.out (by omega)) (fun hHeld => ?_)
        clear hK K hHeld
        simp only [Act.put, List.setIfInBounds_toArray, List.set]
        refine wpAnyH_ready (rs := [3]) (by kernel_rfl) (by simp) ?_
        refine AllReadyH.cons (o := _) (by (simp only [List.getElem?_toArray]; rfl)) (fun K hK => ?_) ?_
        · skip
          refine step_append_new (w.heap.size + 2) (by rfl) (.tmp 3) (.tmp 5) (by rfl) eltEnt (by rfl) (by rfl) (H0.out.rowsAt (kW.trans (kb2kb1kb0k.out.2.mono (by omega)))) hN0.out (by simp only [maxLen]; omega) (by omega) (by rw [← sW]; exact kb2kb1kb0k.out.2.size) ?_
          intro a6 c6 w6 q6
          have ka0kb2kb1kb0k := Lib.hid (KeptB.next (B := W.heap.size) (W := W) (Nat.le_refl _) kb2kb1kb0k.out q6.below)
          refine hK.out _ _ (KeptB.weak ka0kb2kb1kb0k.out (by omega)) (fun hHeld => ?_)
          clear hK K hHeld
          simp only [Act.put, List.setIfInBounds_toArray, List.set]
          refine wpAnyH_ready (rs := [7]) (by kernel_rfl) (by simp) ?_
          refine AllReadyH.cons (o := _) (by (simp only [List.getElem?_toArray]; rfl)) (fun K hK => ?_) ?_
          · skip
            refine step_append_new (w.heap.size + 2) (by rfl) (.tmp 7) (.tmp 9) (by rfl) eltInt (by rfl) (by rfl) (H1.out.rowsAt (kW.trans (ka0kb2kb1kb0k.out.2.mono (by omega)))) hN1.out (by simp only [maxLen]; omega) (by omega) (by rw [← sW]; exact ka0kb2kb1kb0k.out.2.size) ?_
            intro a8 c8 w8 q8
            have p68 := q8.apart (q6.row)
            have ka1ka0kb2kb1kb0k := Lib.hid (KeptB.next (B := W.heap.size) (W := W) (Nat.le_refl _) ka0kb2kb1kb0k.out q8.below)
            refine hK.out _ _ (KeptB.weak ka1ka0kb2kb1kb0k.out (by omega)) (fun hHeld => ?_)
            clear hK K hHeld
            simp only [Act.put, List.setIfInBounds_toArray, List.set]
            refine wpAnyH_ready (rs := [11]) (by kernel_rfl) (by simp) ?_
            refine AllReadyH.cons (o := _) (by (simp only [List.getElem?_toArray]; rfl)) (fun K hK => ?_) ?_
            · skip
              refine step_append_new (w.heap.size + 2) (by rfl) (.tmp 11) (.tmp 13) (by rfl) eltInt (by rfl) (by rfl) (H2.out.rowsAt (kW.trans (ka1ka0kb2kb1kb0k.out.2.mono (by omega)))) hN2.out (by simp only [maxLen]; omega) (by omega) (by rw [← sW]; exact ka1ka0kb2kb1kb0k.out.2.size) ?_
              intro a9 c9 w9 q9
              have p69 := q9.apart ((q6.row).below q8.below)
              have p89 := q9.apart (q8.row)
              have ka2ka1ka0kb2kb1kb0k := Lib.hid (KeptB.next (B := W.heap.size) (W := W) (Nat.le_refl _) ka1ka0kb2kb1kb0k.out q9.below)
              refine hK.out _ _ (KeptB.weak ka2ka1ka0kb2kb1kb0k.out (by omega)) (fun hHeld => ?_)
              clear hK K hHeld
              simp only [Act.put, List.setIfInBounds_toArray, List.set]
              exact hfin ⟨_, _, _, a6, a8, a9, c6, c8, c9⟩ _ _ (by kernel_rfl) ⟨ka2ka1ka0kb2kb1kb0k.out, ((q6.row).below q8.below).below q9.below, (q8.row).below q9.below, q9.row, p68, p69, p89⟩
            exact AllReadyH.nil
          exact AllReadyH.nil
        exact AllReadyH.nil
      exact AllReadyH.nil
    refine AllReadyH.cons (o := _) (by (simp only [List.getElem?_toArray]; rfl)) (fun K hK => ?_) ?_
    · skip
      refine step_build0 (by rfl) (by rfl) eltInt ?_
      have kb2kb0k := Lib.hid (KeptB.alloc (Nat.le_refl _) (.cells #[] 3) kb0k.out)
      refine hK.out _ _ (KeptB.weak kb2kb0k.out (by omega)) (fun hHeld => ?_)
      clear hK K hHeld
      simp only [Act.put, List.setIfInBounds_toArray, List.set]
      refine wpAnyH_ready (rs := [3, 4]) (by kernel_rfl) (by simp) ?_
      refine AllReadyH.cons (o := _) (by (simp only [List.getElem?_toArray]; rfl)) (fun K hK => ?_) ?_
      · skip
        refine step_append_new (w.heap.size + 2) (by rfl) (.tmp 3) (.tmp 5) (by rfl) eltEnt (by rfl) (by rfl) (H0.out.rowsAt (kW.trans (kb2kb0k.out.2.mono (by omega)))) hN0.out (by simp only [maxLen]; omega) (by omega) (by rw [← sW]; exact kb2kb0k.out.2.size) ?_
        intro a6 c6 w6 q6
        have ka0kb2kb0k := Lib.hid (KeptB.next (B := W.heap.size) (W := W) (Nat.le_refl _) kb2kb0k.out q6.below)
        refine hK.out _ _ (KeptB.weak ka0kb2kb0k.out (by omega)) (fun hHeld => ?_)
        clear hK K hHeld
        simp only [Act.put, List.setIfInBounds_toArray, List.set]
        refine wpAnyH_ready (rs := [4]) (by kernel_rfl) (by simp) ?_
        refine AllReadyH.cons (o := _) (by (simp only [List.getElem?_toArray]; rfl)) (fun K hK => ?_) ?_
        · skip
          refine step_build0 (by rfl) (by rfl) eltInt ?_
          have kb1ka0kb2kb0k := Lib.hid (KeptB.alloc (Nat.le_refl _) (.cells #[] 3) ka0kb2kb0k.out)
          refine hK.out _ _ (KeptB.weak kb1ka0kb2kb0k.out (by omega)) (fun hHeld => ?_)
          clear hK K hHeld
          simp only [Act.put, List.setIfInBounds_toArray, List.set]
          refine wpAnyH_ready (rs := [7]) (by kernel_rfl) (by simp) ?_
          refine AllReadyH.cons (o := _) (by (simp only [List.getElem?_toArray]; rfl)) (fun K hK => ?_) ?_
          · skip
            refine step_append_new (w.heap.size + 2) (by rfl) (.tmp 7) (.tmp 9) (by rfl) eltInt (by rfl) (by rfl) (H1.out.rowsAt (kW.trans (kb1ka0kb2kb0k.out.2.mono (by omega)))) hN1.out (by simp only [maxLen]; omega) (by omega) (by rw [← sW]; exact kb1ka0kb2kb0k.out.2.size) ?_
            intro a8 c8 w8 q8
            have p68 := q8.apart ((q6.row).alloc _)
            have ka1kb1ka0kb2kb0k := Lib.hid (KeptB.next (B := W.heap.size) (W := W) (Nat.le_refl _) kb1ka0kb2kb0k.out q8.below)
            refine hK.out _ _ (KeptB.weak ka1kb1ka0kb2kb0k.out (by omega)) (fun hHeld => ?_)
            clear hK K hHeld
            simp only [Act.put, List.setIfInBounds_toArray, List.set]
            refine wpAnyH_ready (rs := [11]) (by kernel_rfl) (by simp) ?_
            refine AllReadyH.cons (o := _) (by (simp only [List.getElem?_toArray]; rfl)) (fun K hK => ?_) ?_
            · skip
              refine step_append_new (w.heap.size + 2) (by rfl) (.tmp 11) (.tmp 13) (by rfl) eltInt (by rfl) (by rfl) (H2.out.rowsAt (kW.trans (ka1kb1ka0kb2kb0k.out.2.mono (by omega)))) hN2.out (by simp only [maxLen]; omega) (by omega) (by rw [← sW]; exact ka1kb1ka0kb2kb0k.out.2.size) ?_
              intro a9 c9 w9 q9
              have p69 := q9.apart (((q6.row).alloc _).below q8.below)
              have p89 := q9.apart (q8.row)
              have ka2ka1kb1ka0kb2kb0k := Lib.hid (KeptB.next (B := W.heap.size) (W := W) (Nat.le_refl _) ka1kb1ka0kb2kb0k.out q9.below)
              refine hK.out _ _ (KeptB.weak ka2ka1kb1ka0kb2kb0k.out (by omega)) (fun hHeld => ?_)
              clear hK K hHeld
              simp only [Act.put, List.setIfInBounds_toArray, List.set]
              exact hfin ⟨_, _, _, a6, a8, a9, c6, c8, c9⟩ _ _ (by kernel_rfl) ⟨ka2ka1kb1ka0kb2kb0k.out, (((q6.row).alloc _).below q8.below).below q9.below, (q8.row).below q9.below, q9.row, p68, p69, p89⟩
            exact AllReadyH.nil
          exact AllReadyH.nil
        exact AllReadyH.nil
      refine AllReadyH.cons (o := _) (by (simp only [List.getElem?_toArray]; rfl)) (fun K hK => ?_) ?_
      · skip
        refine step_build0 (by rfl) (by rfl) eltInt ?_
        have kb1kb2kb0k := Lib.hid (KeptB.alloc (Nat.le_refl _) (.cells #[] 3) kb2kb0k.out)
        refine hK.out _ _ (KeptB.weak kb1kb2kb0k.out (by omega)) (fun hHeld => ?_)
        clear hK K hHeld
        simp only [Act.put, List.setIfInBounds_toArray, List.set]
        refine wpAnyH_ready (rs := [3]) (by kernel_rfl) (by simp) ?_
        refine AllReadyH.cons (o := _) (by (simp only [List.getElem?_toArray]; rfl)) (fun K hK => ?_) ?_
        · skip
          refine step_append_new (w.heap.size + 2) (by rfl) (.tmp 3) (.tmp 5) (by rfl) eltEnt (by rfl) (by rfl) (H0.out.rowsAt (kW.trans (kb1kb2kb0k.out.2.mono (by omega)))) hN0.out (by simp only [maxLen]; omega) (by omega) (by rw [← sW]; exact kb1kb2kb0k.out.2.size) ?_
          intro a6 c6 w6 q6
          have ka0kb1kb2kb0k := Lib.hid (KeptB.next (B := W.heap.size) (W := W) (Nat.le_refl _) kb1kb2kb0k.out q6.below)
          refine hK.out _ _ (KeptB.weak ka0kb1kb2kb0k.out (by omega)) (fun hHeld => ?_)
          clear hK K hHeld
          simp only [Act.put, List.setIfInBounds_toArray, List.set]
          refine wpAnyH_ready (rs := [7]) (by kernel_rfl) (by simp) ?_
          refine AllReadyH.cons (o := _) (by (simp only [List.getElem?_toArray]; rfl)) (fun K hK => ?_) ?_
          · skip
            refine step_append_new (w.heap.size + 2) (by rfl) (.tmp 7) (.tmp 9) (by rfl) eltInt (by rfl) (by rfl) (H1.out.rowsAt (kW.trans (ka0kb1kb2kb0k.out.2.mono (by omega)))) hN1.out (by simp only [maxLen]; omega) (by omega) (by rw [← sW]; exact ka0kb1kb2kb0k.out.2.size) ?_
            intro a8 c8 w8 q8
            have p68 := q8.apart (q6.row)
            have ka1ka0kb1kb2kb0k := Lib.hid (KeptB.next (B := W.heap.size) (W := W) (Nat.le_refl _) ka0kb1kb2kb0k.out q8.below)
            refine hK.out _ _ (KeptB.weak ka1ka0kb1kb2kb0k.out (by omega)) (fun hHeld => ?_)
            clear hK K hHeld
            simp only [Act.put, List.setIfInBounds_toArray, List.set]
            refine wpAnyH_ready (rs := [11]) (by kernel_rfl) (by simp) ?_
            refine AllReadyH.cons (o := _) (by (simp only [List.getElem?_toArray]; rfl)) (fun K hK => ?_) ?_
            · skip
              refine step_append_new (w.heap.size + 2) (by rfl) (.tmp 11) (.tmp 13) (by rfl) eltInt (by rfl) (by rfl) (H2.out.rowsAt (kW.trans (ka1ka0kb1kb2kb0k.out.2.mono (by omega)))) hN2.out (by simp only [maxLen]; omega) (by omega) (by rw [← sW]; exact ka1ka0kb1kb2kb0k.out.2.size) ?_
              intro a9 c9 w9 q9
              have p69 := q9.apart ((q6.row).below q8.below)
              have p89 := q9.apart (q8.row)
              have ka2ka1ka0kb1kb2kb0k := Lib.hid (KeptB.next (B := W.heap.size) (W := W) (Nat.le_refl _) ka1ka0kb1kb2kb0k.out q9.below)
              refine hK.out _ _ (KeptB.weak ka2ka1ka0kb1kb2kb0k.out (by omega)) (fun hHeld => ?_)
              clear hK K hHeld
              simp only [Act.put, List.setIfInBounds_toArray, List.set]
              exact hfin ⟨_, _, _, a6, a8, a9, c6, c8, c9⟩ _ _ (by kernel_rfl) ⟨ka2ka1ka0kb1kb2kb0k.out, ((q6.row).below q8.below).below q9.below, (q8.row).below q9.below, q9.row, p68, p69, p89⟩
            exact AllReadyH.nil
          exact AllReadyH.nil
        exact AllReadyH.nil
      exact AllReadyH.nil
    exact AllReadyH.nil
  refine AllReadyH.cons (o := _) (by (simp only [List.getElem?_toArray]; rfl)) (fun K hK => ?_) ?_
  · skip
    refine step_build0 (by rfl) (by rfl) eltInt ?_
    have kb1k := Lib.hid (KeptB.alloc (Nat.le_refl _) (.cells #[] 3) k.out)
    refine hK.out _ _ (KeptB.weak kb1k.out (by omega)) (fun hHeld => ?_)
    clear hK K hHeld
    simp only [Act.put, List.setIfInBounds_toArray, List.set]
    refine wpAnyH_ready (rs := [0, 8]) (by kernel_rfl) (by simp) ?_
    refine AllReadyH.cons (o := _) (by (simp only [List.getElem?_toArray]; rfl)) (fun K hK => ?_) ?_
    · skip
      refine step_build0 (by rfl) (by rfl) eltEnt ?_
      have kb0kb1k := Lib.hid (KeptB.alloc (Nat.le_refl _) (.cells #[] 92) kb1k.out)
      refine hK.out _ _ (KeptB.weak kb0kb1k.out (by omega)) (fun hHeld => ?_)
      clear hK K hHeld
      simp only [Act.put, List.setIfInBounds_toArray, List.set]
      refine wpAnyH_ready (rs := [3, 8]) (by kernel_rfl) (by simp) ?_
      refine AllReadyH.cons (o := _) (by (simp only [List.getElem?_toArray]; rfl)) (fun K hK => ?_) ?_
      · skip
        refine step_append_new (w.heap.size + 2) (by rfl) (.tmp 3) (.tmp 5) (by rfl) eltEnt (by rfl) (by rfl) (H0.out.rowsAt (kW.trans (kb0kb1k.out.2.mono (by omega)))) hN0.out (by simp only [maxLen]; omega) (by omega) (by rw [← sW]; exact kb0kb1k.out.2.size) ?_
        intro a6 c6 w6 q6
        have ka0kb0kb1k := Lib.hid (KeptB.next (B := W.heap.size) (W := W) (Nat.le_refl _) kb0kb1k.out q6.below)
        refine hK.out _ _ (KeptB.weak ka0kb0kb1k.out (by omega)) (fun hHeld => ?_)
        clear hK K hHeld
        simp only [Act.put, List.setIfInBounds_toArray, List.set]
        refine wpAnyH_ready (rs := [7, 8]) (by kernel_rfl) (by simp) ?_
        refine AllReadyH.cons (o := _) (by (simp only [List.getElem?_toArray]; rfl)) (fun K hK => ?_) ?_
        · skip
          refine step_append_new (w.heap.size + 2) (by rfl) (.tmp 7) (.tmp 9) (by rfl) eltInt (by rfl) (by rfl) (H1.out.rowsAt (kW.trans (ka0kb0kb1k.out.2.mono (by omega)))) hN1.out (by simp only [maxLen]; omega) (by omega) (by rw [← sW]; exact ka0kb0kb1k.out.2.size) ?_
          intro a8 c8 w8 q8
          have p68 := q8.apart (q6.row)
          have ka1ka0kb0kb1k := Lib.hid (KeptB.next (B := W.heap.size) (W := W) (Nat.le_refl _) ka0kb0kb1k.out q8.below)
          refine hK.out _ _ (KeptB.weak ka1ka0kb0kb1k.out (by omega)) (fun hHeld => ?_)
          clear hK K hHeld
          simp only [Act.put, List.setIfInBounds_toArray, List.set]
          refine wpAnyH_ready (rs := [8]) (by kernel_rfl) (by simp) ?_
          refine AllReadyH.cons (o := _) (by (simp only [List.getElem?_toArray]; rfl)) (fun K hK => ?_) ?_
          · skip
            refine step_build0 (by rfl) (by rfl) eltInt ?_
            have kb2ka1ka0kb0kb1k := Lib.hid (KeptB.alloc (Nat.le_refl _) (.cells #[] 3) ka1ka0kb0kb1k.out)
            refine hK.out _ _ (KeptB.weak kb2ka1ka0kb0kb1k.out (by omega)) (fun hHeld => ?_)
            clear hK K hHeld
            simp only [Act.put, List.setIfInBounds_toArray, List.set]
            refine wpAnyH_ready (rs := [11]) (by kernel_rfl) (by simp) ?_
            refine AllReadyH.cons (o := _) (by (simp only [List.getElem?_toArray]; rfl)) (fun K hK => ?_) ?_
            · skip
              refine step_append_new (w.heap.size + 2) (by rfl) (.tmp 11) (.tmp 13) (by rfl) eltInt (by rfl) (by rfl) (H2.out.rowsAt (kW.trans (kb2ka1ka0kb0kb1k.out.2.mono (by omega)))) hN2.out (by simp only [maxLen]; omega) (by omega) (by rw [← sW]; exact kb2ka1ka0kb0kb1k.out.2.size) ?_
              intro a9 c9 w9 q9
              have p69 := q9.apart (((q6.row).below q8.below).alloc _)
              have p89 := q9.apart ((q8.row).alloc _)
              have ka2kb2ka1ka0kb0kb1k := Lib.hid (KeptB.next (B := W.heap.size) (W := W) (Nat.le_refl _) kb2ka1ka0kb0kb1k.out q9.below)
              refine hK.out _ _ (KeptB.weak ka2kb2ka1ka0kb0kb1k.out (by omega)) (fun hHeld => ?_)
              clear hK K hHeld
              simp only [Act.put, List.setIfInBounds_toArray, List.set]
              exact hfin ⟨_, _, _, a6, a8, a9, c6, c8, c9⟩ _ _ (by kernel_rfl) ⟨ka2kb2ka1ka0kb0kb1k.out, (((q6.row).below q8.below).alloc _).below q9.below, ((q8.row).alloc _).below q9.below, q9.row, p68, p69, p89⟩
            exact AllReadyH.nil
          exact AllReadyH.nil
        refine AllReadyH.cons (o := _) (by (simp only [List.getElem?_toArray]; rfl)) (fun K hK => ?_) ?_
        · skip
          refine step_build0 (by rfl) (by rfl) eltInt ?_
          have kb2ka0kb0kb1k := Lib.hid (KeptB.alloc (Nat.le_refl _) (.cells #[] 3) ka0kb0kb1k.out)
          refine hK.out _ _ (KeptB.weak kb2ka0kb0kb1k.out (by omega)) (fun hHeld => ?_)
          clear hK K hHeld
          simp only [Act.put, List.setIfInBounds_toArray, List.set]
          refine wpAnyH_ready (rs := [7]) (by kernel_rfl) (by simp) ?_
          refine AllReadyH.cons (o := _) (by (simp only [List.getElem?_toArray]; rfl)) (fun K hK => ?_) ?_
          · skip
            refine step_append_new (w.heap.size + 2) (by rfl) (.tmp 7) (.tmp 9) (by rfl) eltInt (by rfl) (by rfl) (H1.out.rowsAt (kW.trans (kb2ka0kb0kb1k.out.2.mono (by omega)))) hN1.out (by simp only [maxLen]; omega) (by omega) (by rw [← sW]; exact kb2ka0kb0kb1k.out.2.size) ?_
            intro a8 c8 w8 q8
            have p68 := q8.apart ((q6.row).alloc _)
            have ka1kb2ka0kb0kb1k := Lib.hid (KeptB.next (B := W.heap.size) (W := W) (Nat.le_refl _) kb2ka0kb0kb1k.out q8.below)
            refine hK.out _ _ (KeptB.weak ka1kb2ka0kb0kb1k.out (by omega)) (fun hHeld => ?_)
            clear hK K hHeld
            simp only [Act.put, List.setIfInBounds_toArray, List.set]
            refine wpAnyH_ready (rs := [11]) (by kernel_rfl) (by simp) ?_
            refine AllReadyH.cons (o := _) (by (simp only [List.getElem?_toArray]; rfl)) (fun K hK => ?_) ?_
            · skip
              refine step_append_new (w.heap.size + 2) (by rfl) (.tmp 11) (.tmp 13) (by rfl) eltInt (by rfl) (by rfl) (H2.out.rowsAt (kW.trans (ka1kb2ka0kb0kb1k.out.2.mono (by omega)))) hN2.out (by simp only [maxLen]; omega) (by omega) (by rw [← sW]; exact ka1kb2ka0kb0kb1k.out.2.size) ?_
              intro a9 c9 w9 q9
              have p69 := q9.apart (((q6.row).alloc _).below q8.below)
              have p89 := q9.apart (q8.row)
              have ka2ka1kb2ka0kb0kb1k := Lib.hid (KeptB.next (B := W.heap.size) (W := W) (Nat.le_refl _) ka1kb2ka0kb0kb1k.out q9.below)
              refine hK.out _ _ (KeptB.weak ka2ka1kb2ka0kb0kb1k.out (by omega)) (fun hHeld => ?_)
              clear hK K hHeld
              simp only [Act.put, List.setIfInBounds_toArray, List.set]
              exact hfin ⟨_, _, _, a6, a8, a9, c6, c8, c9⟩ _ _ (by kernel_rfl) ⟨ka2ka1kb2ka0kb0kb1k.out, (((q6.row).alloc _).below q8.below).below q9.below, (q8.row).below q9.below, q9.row, p68, p69, p89⟩
            exact AllReadyH.nil
          exact AllReadyH.nil
        exact AllReadyH.nil
      refine AllReadyH.cons (o := _) (by (simp only [List.getElem?_toArray]; rfl)) (fun K hK => ?_) ?_
      · skip
        refine step_build0 (by rfl) (by rfl) eltInt ?_
        have kb2kb0kb1k := Lib.hid (KeptB.alloc (Nat.le_refl _) (.cells #[] 3) kb0kb1k.out)
        refine hK.out _ _ (KeptB.weak kb2kb0kb1k.out (by omega)) (fun hHeld => ?_)
        clear hK K hHeld
        simp only [Act.put, List.setIfInBounds_toArray, List.set]
        refine wpAnyH_ready (rs := [3]) (by kernel_rfl) (by simp) ?_
        refine AllReadyH.cons (o := _) (by (simp only [List.getElem?_toArray]; rfl)) (fun K hK => ?_) ?_
        · skip
          refine step_append_new (w.heap.size + 2) (by rfl) (.tmp 3) (.tmp 5) (by rfl) eltEnt (by rfl) (by rfl) (H0.out.rowsAt (kW.trans (kb2kb0kb1k.out.2.mono (by omega)))) hN0.out (by simp only [maxLen]; omega) (by omega) (by rw [← sW]; exact kb2kb0kb1k.out.2.size) ?_
          intro a6 c6 w6 q6
          have ka0kb2kb0kb1k := Lib.hid (KeptB.next (B := W.heap.size) (W := W) (Nat.le_refl _) kb2kb0kb1k.out q6.below)
          refine hK.out _ _ (KeptB.weak ka0kb2kb0kb1k.out (by omega)) (fun hHeld => ?_)
          clear hK K hHeld
          simp only [Act.put, List.setIfInBounds_toArray, List.set]
          refine wpAnyH_ready (rs := [7]) (by kernel_rfl) (by simp) ?_
          refine AllReadyH.cons (o := _) (by (simp only [List.getElem?_toArray]; rfl)) (fun K hK => ?_) ?_
          · skip
            refine step_append_new (w.heap.size + 2) (by rfl) (.tmp 7) (.tmp 9) (by rfl) eltInt (by rfl) (by rfl) (H1.out.rowsAt (kW.trans (ka0kb2kb0kb1k.out.2.mono (by omega)))) hN1.out (by simp only [maxLen]; omega) (by omega) (by rw [← sW]; exact ka0kb2kb0kb1k.out.2.size) ?_
            intro a8 c8 w8 q8
            have p68 := q8.apart (q6.row)
            have ka1ka0kb2kb0kb1k := Lib.hid (KeptB.next (B := W.heap.size) (W := W) (Nat.le_refl _) ka0kb2kb0kb1k.out q8.below)
            refine hK.out _ _ (KeptB.weak ka1ka0kb2kb0kb1k.out (by omega)) (fun hHeld => ?_)
            clear hK K hHeld
            simp only [Act.put, List.setIfInBounds_toArray, List.set]
            refine wpAnyH_ready (rs := [11]) (by kernel_rfl) (by simp) ?_
            refine AllReadyH.cons (o := _) (by (simp only [List.getElem?_toArray]; rfl)) (fun K hK => ?_) ?_
            · skip
              refine step_append_new (w.heap.size + 2) (by rfl) (.tmp 11) (.tmp 13) (by rfl) eltInt (by rfl) (by rfl) (H2.out.rowsAt (kW.trans (ka1ka0kb2kb0kb1k.out.2.mono (by omega)))) hN2.out (by simp only [maxLen]; omega) (by omega) (by rw [← sW]; exact ka1ka0kb2kb0kb1k.out.2.size) ?_
              intro a9 c9 w9 q9
              have p69 := q9.apart ((q6.row).below q8.below)
              have p89 := q9.apart (q8.row)
              have ka2ka1ka0kb2kb0kb1k := Lib.hid (KeptB.next (B := W.heap.size) (W := W) (Nat.le_refl _) ka1ka0kb2kb0kb1k.out q9.below)
              refine hK.out _ _ (KeptB.weak ka2ka1ka0kb2kb0kb1k.out (by omega)) (fun hHeld => ?_)
              clear hK K hHeld
              simp only [Act.put, List.setIfInBounds_toArray, List.set]
              exact hfin ⟨_, _, _, a6, a8, a9, c6, c8, c9⟩ _ _ (by kernel_rfl) ⟨ka2ka1ka0kb2kb0kb1k.out, ((q6.row).below q8.below).below q9.below, (q8.row).below q9.below, q9.row, p68, p69, p89⟩
            exact AllReadyH.nil
          exact AllReadyH.nil
        exact AllReadyH.nil
      exact AllReadyH.nil
    refine AllReadyH.cons (o := _) (by (simp only [List.getElem?_toArray]; rfl)) (fun K hK => ?_) ?_
    · skip
      refine step_build0 (by rfl) (by rfl) eltInt ?_
      have kb2kb1k := Lib.hid (KeptB.alloc (Nat.le_refl _) (.cells #[] 3) kb1k.out)
      refine hK.out _ _ (KeptB.weak kb2kb1k.out (by omega)) (fun hHeld => ?_)
      clear hK K hHeld
      simp only [Act.put, List.setIfInBounds_toArray, List.set]
      refine wpAnyH_ready (rs := [0]) (by kernel_rfl) (by simp) ?_
      refine AllReadyH.cons (o := _) (by (simp only [List.getElem?_toArray]; rfl)) (fun K hK => ?_) ?_
      · skip
        refine step_build0 (by rfl) (by rfl) eltEnt ?_
        have kb0kb2kb1k := Lib.hid (KeptB.alloc (Nat.le_refl _) (.cells #[] 92) kb2kb1k.out)
        refine hK.out _ _ (KeptB.weak kb0kb2kb1k.out (by omega)) (fun hHeld => ?_)
        clear hK K hHeld
        simp only [Act.put, List.setIfInBounds_toArray, List.set]
        refine wpAnyH_ready (rs := [3]) (by kernel_rfl) (by simp) ?_
        refine AllReadyH.cons (o := _) (by (simp only [List.getElem?_toArray]; rfl)) (fun K hK => ?_) ?_
        · skip
          refine step_append_new (w.heap.size + 2) (by rfl) (.tmp 3) (.tmp 5) (by rfl) eltEnt (by rfl) (by rfl) (H0.out.rowsAt (kW.trans (kb0kb2kb1k.out.2.mono (by omega)))) hN0.out (by simp only [maxLen]; omega) (by omega) (by rw [← sW]; exact kb0kb2kb1k.out.2.size) ?_
          intro a6 c6 w6 q6
          have ka0kb0kb2kb1k := Lib.hid (KeptB.next (B := W.heap.size) (W := W) (Nat.le_refl _) kb0kb2kb1k.out q6.below)
          refine hK.out _ _ (KeptB.weak ka0kb0kb2kb1k.out (by omega)) (fun hHeld => ?_)
          clear hK K hHeld
          simp only [Act.put, List.setIfInBounds_toArray, List.set]
          refine wpAnyH_ready (rs := [7]) (by kernel_rfl) (by simp) ?_
          refine AllReadyH.cons (o := _) (by (simp only [List.getElem?_toArray]; rfl)) (fun K hK => ?_) ?_
          · skip
            refine step_append_new (w.heap.size + 2) (by rfl) (.tmp 7) (.tmp 9) (by rfl) eltInt (by rfl) (by rfl) (H1.out.rowsAt (kW.trans (ka0kb0kb2kb1k.out.2.mono (by omega)))) hN1.out (by simp only [maxLen]; omega) (by omega) (by rw [← sW]; exact ka0kb0kb2kb1k.out.2.size) ?_
            intro a8 c8 w8 q8
            have p68 := q8.apart (q6.row)
            have ka1ka0kb0kb2kb1k := Lib.hid (KeptB.next (B := W.heap.size) (W := W) (Nat.le_refl _) ka0kb0kb2kb1k.out q8.below)
            refine hK.out _ _ (KeptB.weak ka1ka0kb0kb2kb1k.out (by omega)) (fun hHeld => ?_)
            clear hK K hHeld
            simp only [Act.put, List.setIfInBounds_toArray, List.set]
            refine wpAnyH_ready (rs := [11]) (by kernel_rfl) (by simp) ?_
            refine AllReadyH.cons (o := _) (by (simp only [List.getElem?_toArray]; rfl)) (fun K hK => ?_) ?_
            · skip
              refine step_append_new (w.heap.size + 2) (by rfl) (.tmp 11) (.tmp 13) (by rfl) eltInt (by rfl) (by rfl) (H2.out.rowsAt (kW.trans (ka1ka0kb0kb2kb1k.out.2.mono (by omega)))) hN2.out (by simp only [maxLen]; omega) (by omega) (by rw [← sW]; exact ka1ka0kb0kb2kb1k.out.2.size) ?_
              intro a9 c9 w9 q9
              have p69 := q9.apart ((q6.row).below q8.below)
              have p89 := q9.apart (q8.row)
              have ka2ka1ka0kb0kb2kb1k := Lib.hid (KeptB.next (B := W.heap.size) (W := W) (Nat.le_refl _) ka1ka0kb0kb2kb1k.out q9.below)
              refine hK.out _ _ (KeptB.weak ka2ka1ka0kb0kb2kb1k.out (by omega)) (fun hHeld => ?_)
              clear hK K hHeld
              simp only [Act.put, List.setIfInBounds_toArray, List.set]
              exact hfin ⟨_, _, _, a6, a8, a9, c6, c8, c9⟩ _ _ (by kernel_rfl) ⟨ka2ka1ka0kb0kb2kb1k.out, ((q6.row).below q8.below).below q9.below, (q8.row).below q9.below, q9.row, p68, p69, p89⟩
            exact AllReadyH.nil
          exact AllReadyH.nil
        exact AllReadyH.nil
      exact AllReadyH.nil
    exact AllReadyH.nil
  refine AllReadyH.cons (o := _) (by (simp only [List.getElem?_toArray]; rfl)) (fun K hK => ?_) ?_
  · skip
    refine step_build0 (by rfl) (by rfl) eltInt ?_
    have kb2k := Lib.hid (KeptB.alloc (Nat.le_refl _) (.cells #[] 3) k.out)
    refine hK.out _ _ (KeptB.weak kb2k.out (by omega)) (fun hHeld => ?_)
    clear hK K hHeld
    simp only [Act.put, List.setIfInBounds_toArray, List.set]
    refine wpAnyH_ready (rs := [0, 4]) (by kernel_rfl) (by simp) ?_
    refine AllReadyH.cons (o := _) (by (simp only [List.getElem?_toArray]; rfl)) (fun K hK => ?_) ?_
    · skip
      refine step_build0 (by rfl) (by rfl) eltEnt ?_
      have kb0kb2k := Lib.hid (KeptB.alloc (Nat.le_refl _) (.cells #[] 92) kb2k.out)
      refine hK.out _ _ (KeptB.weak kb0kb2k.out (by omega)) (fun hHeld => ?_)
      clear hK K hHeld
      simp only [Act.put, List.setIfInBounds_toArray, List.set]
      refine wpAnyH_ready (rs := [3, 4]) (by kernel_rfl) (by simp) ?_
      refine AllReadyH.cons (o := _) (by (simp only [List.getElem?_toArray]; rfl)) (fun K hK => ?_) ?_
      · skip
        refine step_append_new (w.heap.size + 2) (by rfl) (.tmp 3) (.tmp 5) (by rfl) eltEnt (by rfl) (by rfl) (H0.out.rowsAt (kW.trans (kb0kb2k.out.2.mono (by omega)))) hN0.out (by simp only [maxLen]; omega) (by omega) (by rw [← sW]; exact kb0kb2k.out.2.size) ?_
        intro a6 c6 w6 q6
        have ka0kb0kb2k := Lib.hid (KeptB.next (B := W.heap.size) (W := W) (Nat.le_refl _) kb0kb2k.out q6.below)
        refine hK.out _ _ (KeptB.weak ka0kb0kb2k.out (by omega)) (fun hHeld => ?_)
        clear hK K hHeld
        simp only [Act.put, List.setIfInBounds_toArray, List.set]
        refine wpAnyH_ready (rs := [4]) (by kernel_rfl) (by simp) ?_
        refine AllReadyH.cons (o := _) (by (simp only [List.getElem?_toArray]; rfl)) (fun K hK => ?_) ?_
        · skip
          refine step_build0 (by rfl) (by rfl) eltInt ?_
          have kb1ka0kb0kb2k := Lib.hid (KeptB.alloc (Nat.le_refl _) (.cells #[] 3) ka0kb0kb2k.out)
          refine hK.out _ _ (KeptB.weak kb1ka0kb0kb2k.out (by omega)) (fun hHeld => ?_)
          clear hK K hHeld
          simp only [Act.put, List.setIfInBounds_toArray, List.set]
          refine wpAnyH_ready (rs := [7]) (by kernel_rfl) (by simp) ?_
          refine AllReadyH.cons (o := _) (by (simp only [List.getElem?_toArray]; rfl)) (fun K hK => ?_) ?_
          · skip
            refine step_append_new (w.heap.size + 2) (by rfl) (.tmp 7) (.tmp 9) (by rfl) eltInt (by rfl) (by rfl) (H1.out.rowsAt (kW.trans (kb1ka0kb0kb2k.out.2.mono (by omega)))) hN1.out (by simp only [maxLen]; omega) (by omega) (by rw [← sW]; exact kb1ka0kb0kb2k.out.2.size) ?_
            intro a8 c8 w8 q8
            have p68 := q8.apart ((q6.row).alloc _)
            have ka1kb1ka0kb0kb2k := Lib.hid (KeptB.next (B := W.heap.size) (W := W) (Nat.le_refl _) kb1ka0kb0kb2k.out q8.below)
            refine hK.out _ _ (KeptB.weak ka1kb1ka0kb0kb2k.out (by omega)) (fun hHeld => ?_)
            clear hK K hHeld
            simp only [Act.put, List.setIfInBounds_toArray, List.set]
            refine wpAnyH_ready (rs := [11]) (by kernel_rfl) (by simp) ?_
            refine AllReadyH.cons (o := _) (by (simp only [List.getElem?_toArray]; rfl)) (fun K hK => ?_) ?_
            · skip
              refine step_append_new (w.heap.size + 2) (by rfl) (.tmp 11) (.tmp 13) (by rfl) eltInt (by rfl) (by rfl) (H2.out.rowsAt (kW.trans (ka1kb1ka0kb0kb2k.out.2.mono (by omega)))) hN2.out (by simp only [maxLen]; omega) (by omega) (by rw [← sW]; exact ka1kb1ka0kb0kb2k.out.2.size) ?_
              intro a9 c9 w9 q9
              have p69 := q9.apart (((q6.row).alloc _).below q8.below)
              have p89 := q9.apart (q8.row)
              have ka2ka1kb1ka0kb0kb2k := Lib.hid (KeptB.next (B := W.heap.size) (W := W) (Nat.le_refl _) ka1kb1ka0kb0kb2k.out q9.below)
              refine hK.out _ _ (KeptB.weak ka2ka1kb1ka0kb0kb2k.out (by omega)) (fun hHeld => ?_)
              clear hK K hHeld
              simp only [Act.put, List.setIfInBounds_toArray, List.set]
              exact hfin ⟨_, _, _, a6, a8, a9, c6, c8, c9⟩ _ _ (by kernel_rfl) ⟨ka2ka1kb1ka0kb0kb2k.out, (((q6.row).alloc _).below q8.below).below q9.below, (q8.row).below q9.below, q9.row, p68, p69, p89⟩
            exact AllReadyH.nil
          exact AllReadyH.nil
        exact AllReadyH.nil
      refine AllReadyH.cons (o := _) (by (simp only [List.getElem?_toArray]; rfl)) (fun K hK => ?_) ?_
      · skip
        refine step_build0 (by rfl) (by rfl) eltInt ?_
        have kb1kb0kb2k := Lib.hid (KeptB.alloc (Nat.le_refl _) (.cells #[] 3) kb0kb2k.out)
        refine hK.out _ _ (KeptB.weak kb1kb0kb2k.out (by omega)) (fun hHeld => ?_)
        clear hK K hHeld
        simp only [Act.put, List.setIfInBounds_toArray, List.set]
        refine wpAnyH_ready (rs := [3]) (by kernel_rfl) (by simp) ?_
        refine AllReadyH.cons (o := _) (by (simp only [List.getElem?_toArray]; rfl)) (fun K hK => ?_) ?_
        · skip
          refine step_append_new (w.heap.size + 2) (by rfl) (.tmp 3) (.tmp 5) (by rfl) eltEnt (by rfl) (by rfl) (H0.out.rowsAt (kW.trans (kb1kb0kb2k.out.2.mono (by omega)))) hN0.out (by simp only [maxLen]; omega) (by omega) (by rw [← sW]; exact kb1kb0kb2k.out.2.size) ?_
          intro a6 c6 w6 q6
          have ka0kb1kb0kb2k := Lib.hid (KeptB.next (B := W.heap.size) (W := W) (Nat.le_refl _) kb1kb0kb2k.out q6.below)
          refine hK.out _ _ (KeptB.weak ka0kb1kb0kb2k.out (by omega)) (fun hHeld => ?_)
          clear hK K hHeld
          simp only [Act.put, List.setIfInBounds_toArray, List.set]
          refine wpAnyH_ready (rs := [7]) (by kernel_rfl) (by simp) ?_
          refine AllReadyH.cons (o := _) (by (simp only [List.getElem?_toArray]; rfl)) (fun K hK => ?_) ?_
          · skip
            refine step_append_new (w.heap.size + 2) (by rfl) (.tmp 7) (.tmp 9) (by rfl) eltInt (by rfl) (by rfl) (H1.out.rowsAt (kW.trans (ka0kb1kb0kb2k.out.2.mono (by omega)))) hN1.out (by simp only [maxLen]; omega) (by omega) (by rw [← sW]; exact ka0kb1kb0kb2k.out.2.size) ?_
            intro a8 c8 w8 q8
            have p68 := q8.apart (q6.row)
            have ka1ka0kb1kb0kb2k := Lib.hid (KeptB.next (B := W.heap.size) (W := W) (Nat.le_refl _) ka0kb1kb0kb2k.out q8.below)
            refine hK.out _ _ (KeptB.weak ka1ka0kb1kb0kb2k.out (by omega)) (fun hHeld => ?_)
            clear hK K hHeld
            simp only [Act.put, List.setIfInBounds_toArray, List.set]
            refine wpAnyH_ready (rs := [11]) (by kernel_rfl) (by simp) ?_
            refine AllReadyH.cons (o := _) (by (simp only [List.getElem?_toArray]; rfl)) (fun K hK => ?_) ?_
            · skip
              refine step_append_new (w.heap.size + 2) (by rfl) (.tmp 11) (.tmp 13) (by rfl) eltInt (by rfl) (by rfl) (H2.out.rowsAt (kW.trans (ka1ka0kb1kb0kb2k.out.2.mono (by omega)))) hN2.out (by simp only [maxLen]; omega) (by omega) (by rw [← sW]; exact ka1ka0kb1kb0kb2k.out.2.size) ?_
              intro a9 c9 w9 q9
              have p69 := q9.apart ((q6.row).below q8.below)
              have p89 := q9.apart (q8.row)
              have ka2ka1ka0kb1kb0kb2k := Lib.hid (KeptB.next (B := W.heap.size) (W := W) (Nat.le_refl _) ka1ka0kb1kb0kb2k.out q9.below)
              refine hK.out _ _ (KeptB.weak ka2ka1ka0kb1kb0kb2k.out (by omega)) (fun hHeld => ?_)
              clear hK K hHeld
              simp only [Act.put, List.setIfInBounds_toArray, List.set]
              exact hfin ⟨_, _, _, a6, a8, a9, c6, c8, c9⟩ _ _ (by kernel_rfl) ⟨ka2ka1ka0kb1kb0kb2k.out, ((q6.row).below q8.below).below q9.below, (q8.row).below q9.below, q9.row, p68, p69, p89⟩
            exact AllReadyH.nil
          exact AllReadyH.nil
        exact AllReadyH.nil
      exact AllReadyH.nil
    refine AllReadyH.cons (o := _) (by (simp only [List.getElem?_toArray]; rfl)) (fun K hK => ?_) ?_
    · skip
      refine step_build0 (by rfl) (by rfl) eltInt ?_
      have kb1kb2k := Lib.hid (KeptB.alloc (Nat.le_refl _) (.cells #[] 3) kb2k.out)
      refine hK.out _ _ (KeptB.weak kb1kb2k.out (by omega)) (fun hHeld => ?_)
      clear hK K hHeld
      simp only [Act.put, List.setIfInBounds_toArray, List.set]
      refine wpAnyH_ready (rs := [0]) (by kernel_rfl) (by simp) ?_
      refine AllReadyH.cons (o := _) (by (simp only [List.getElem?_toArray]; rfl)) (fun K hK => ?_) ?_
      · skip
        refine step_build0 (by rfl) (by rfl) eltEnt ?_
        have kb0kb1kb2k := Lib.hid (KeptB.alloc (Nat.le_refl _) (.cells #[] 92) kb1kb2k.out)
        refine hK.out _ _ (KeptB.weak kb0kb1kb2k.out (by omega)) (fun hHeld => ?_)
        clear hK K hHeld
        simp only [Act.put, List.setIfInBounds_toArray, List.set]
        refine wpAnyH_ready (rs := [3]) (by kernel_rfl) (by simp) ?_
        refine AllReadyH.cons (o := _) (by (simp only [List.getElem?_toArray]; rfl)) (fun K hK => ?_) ?_
        · skip
          refine step_append_new (w.heap.size + 2) (by rfl) (.tmp 3) (.tmp 5) (by rfl) eltEnt (by rfl) (by rfl) (H0.out.rowsAt (kW.trans (kb0kb1kb2k.out.2.mono (by omega)))) hN0.out (by simp only [maxLen]; omega) (by omega) (by rw [← sW]; exact kb0kb1kb2k.out.2.size) ?_
          intro a6 c6 w6 q6
          have ka0kb0kb1kb2k := Lib.hid (KeptB.next (B := W.heap.size) (W := W) (Nat.le_refl _) kb0kb1kb2k.out q6.below)
          refine hK.out _ _ (KeptB.weak ka0kb0kb1kb2k.out (by omega)) (fun hHeld => ?_)
          clear hK K hHeld
          simp only [Act.put, List.setIfInBounds_toArray, List.set]
          refine wpAnyH_ready (rs := [7]) (by kernel_rfl) (by simp) ?_
          refine AllReadyH.cons (o := _) (by (simp only [List.getElem?_toArray]; rfl)) (fun K hK => ?_) ?_
          · skip
            refine step_append_new (w.heap.size + 2) (by rfl) (.tmp 7) (.tmp 9) (by rfl) eltInt (by rfl) (by rfl) (H1.out.rowsAt (kW.trans (ka0kb0kb1kb2k.out.2.mono (by omega)))) hN1.out (by simp only [maxLen]; omega) (by omega) (by rw [← sW]; exact ka0kb0kb1kb2k.out.2.size) ?_
            intro a8 c8 w8 q8
            have p68 := q8.apart (q6.row)
            have ka1ka0kb0kb1kb2k := Lib.hid (KeptB.next (B := W.heap.size) (W := W) (Nat.le_refl _) ka0kb0kb1kb2k.out q8.below)
            refine hK.out _ _ (KeptB.weak ka1ka0kb0kb1kb2k.out (by omega)) (fun hHeld => ?_)
            clear hK K hHeld
            simp only [Act.put, List.setIfInBounds_toArray, List.set]
            refine wpAnyH_ready (rs := [11]) (by kernel_rfl) (by simp) ?_
            refine AllReadyH.cons (o := _) (by (simp only [List.getElem?_toArray]; rfl)) (fun K hK => ?_) ?_
            · skip
              refine step_append_new (w.heap.size + 2) (by rfl) (.tmp 11) (.tmp 13) (by rfl) eltInt (by rfl) (by rfl) (H2.out.rowsAt (kW.trans (ka1ka0kb0kb1kb2k.out.2.mono (by omega)))) hN2.out (by simp only [maxLen]; omega) (by omega) (by rw [← sW]; exact ka1ka0kb0kb1kb2k.out.2.size) ?_
              intro a9 c9 w9 q9
              have p69 := q9.apart ((q6.row).below q8.below)
              have p89 := q9.apart (q8.row)
              have ka2ka1ka0kb0kb1kb2k := Lib.hid (KeptB.next (B := W.heap.size) (W := W) (Nat.le_refl _) ka1ka0kb0kb1kb2k.out q9.below)
              refine hK.out _ _ (KeptB.weak ka2ka1ka0kb0kb1kb2k.out (by omega)) (fun hHeld => ?_)
              clear hK K hHeld
              simp only [Act.put, List.setIfInBounds_toArray, List.set]
              exact hfin ⟨_, _, _, a6, a8, a9, c6, c8, c9⟩ _ _ (by kernel_rfl) ⟨ka2ka1ka0kb0kb1kb2k.out, ((q6.row).below q8.below).below q9.below, (q8.row).below q9.below, q9.row, p68, p69, p89⟩
            exact AllReadyH.nil
          exact AllReadyH.nil
        exact AllReadyH.nil
      exact AllReadyH.nil
    exact AllReadyH.nil
  exact AllReadyH.nil
end Go.Proofs.Ytofedboeggdkaaa

/-! When a game is ok, as a plain function; no program; no condition. -/
namespace Go.Proofs.Ytofedboeggdkaaa
open Go.RowKit

/-- The figure number j; its client's number; that of the one ahead of it. -/
def entN (es : List Rq) (j : Nat) : Rq := es.getD j ⟨0, 0, 0, 0, 0⟩
def prevC (es : List Rq) (j : Nat) : Int := if j = 0 then 0 else (entN es (j - 1)).c
/-- A figure, behind client L. -/
def figB (L : Int) (e : Rq) : Bool := inB e.c (L + 1) 4 && (inB e.n 0 3 && inB e.o 0 3) && inB e.x 0 3 && inB e.y 0 20
def entAt (es : List Rq) (j : Nat) : Bool := figB (prevC es j) (entN es j)
def entsB (es : List Rq) : Bool := (List.range es.length).all (entAt es)
def golds (es : List Rq) : Int := (es.map Rq.y).sum
def gameB (g : Gm) : Bool := entsB g.es && g.fl.all (fun n => inB n 0 20) && g.la.all (fun n => inB n 0 30) && (g.fl.length == 16) && (g.la.length == 4) && (golds g.es + g.fl.sum == 20)

theorem entsB_iff (es : List Rq) : entsB es = true ↔ ∀ j, j < es.length → entAt es j = true := by
  unfold entsB
  rw [List.all_eq_true]
  simp
theorem entsB_bad {es : List Rq} {k : Nat} (h : k < es.length) (hb : entAt es k = false) : entsB es = false := by
  rw [← Bool.not_eq_true, entsB_iff]
  intro hh
  rw [hh k h] at hb
  cases hb
theorem all_bad {α : Type} {p : α → Bool} {zs : List α} {k : Nat} (h : k < zs.length) (hb : p zs[k] = false) : zs.all p = false := by
  rw [← Bool.not_eq_true, List.all_eq_true]
  intro hh
  rw [hh _ (List.getElem_mem h)] at hb
  cases hb
theorem all_good {α : Type} {p : α → Bool} {zs : List α} {k : Nat} (h : ∀ j (hj : j < zs.length), j < k → p zs[j] = true) (hk : zs.length ≤ k) : zs.all p = true := by
  rw [List.all_eq_true]
  intro z hz
  obtain ⟨j, hj, rfl⟩ := List.getElem_of_mem hz
  exact h j hj (by omega)

theorem entN_get {es : List Rq} {k : Nat} (h : k < es.length) : entN es k = es[k] := by
  unfold entN; rw [List.getD_eq_getElem?_getD, List.getElem?_eq_getElem h]; rfl
theorem golds_snoc {es : List Rq} {k : Nat} (h : k < es.length) : golds (es.take (k + 1)) = golds (es.take k) + (entN es k).y := by
  unfold golds
  rw [List.take_succ_eq_append_getElem h, entN_get h, List.map_append, List.sum_append, List.map_cons, List.map_nil, List.sum_cons, List.sum_nil, Int.add_zero]
theorem sum_snoc {zs : List Int} {k : Nat} (h : k < zs.length) : (zs.take (k + 1)).sum = (zs.take k).sum + zs[k] := by
  rw [List.take_succ_eq_append_getElem h, List.sum_append, List.sum_cons, List.sum_nil, Int.add_zero]
/-- A figure that is one: its numbers. -/
theorem figB_iff (L : Int) (e : Rq) : figB L e = true ↔ (L + 1 ≤ e.c ∧ e.c ≤ 4) ∧ (0 ≤ e.n ∧ e.n ≤ 3) ∧ (0 ≤ e.o ∧ e.o ≤ 3) ∧ (0 ≤ e.x ∧ e.x ≤ 3) ∧ (0 ≤ e.y ∧ e.y ≤ 20) := by
  unfold figB
  simp only [Bool.and_eq_true, inB_iff]
  constructor
  · rintro ⟨⟨⟨h1, h2, h3⟩, h4⟩, h5⟩; exact ⟨h1, h2, h3, h4, h5⟩
  · rintro ⟨h1, h2, h3, h4, h5⟩; exact ⟨⟨⟨h1, h2, h3⟩, h4⟩, h5⟩
/-- The gold of the first k figures, where they are ones. -/
theorem golds_bound {es : List Rq} {k : Nat} (hk : k ≤ es.length) (h : ∀ j, j < k → entAt es j = true) : 0 ≤ golds (es.take k) ∧ golds (es.take k) ≤ 20 * k := by
  induction k with
  | zero => simp [golds]
  | succ k ih =>
    obtain ⟨a, b⟩ := ih (by omega) (fun j hj => h j (by omega))
    have hk' := h k (by omega)
    have := (figB_iff _ _).1 hk'
    rw [golds_snoc (by omega)]
    omega
theorem sum_bound {zs : List Int} {k : Nat} (hk : k ≤ zs.length) (h : ∀ j (hj : j < zs.length), j < k → inB zs[j] 0 20 = true) : 0 ≤ (zs.take k).sum ∧ (zs.take k).sum ≤ 20 * k := by
  induction k with
  | zero => simp
  | succ k ih =>
    obtain ⟨a, b⟩ := ih (by omega) (fun j hj hjk => h j hj (by omega))
    have hk' := (inB_iff _ _ _).1 (h k (by omega) (by omega))
    rw [sum_snoc (by omega)]
    omega
/-- Behind a figure: the client's number is above naught. -/
theorem prev_bound {es : List Rq} {k : Nat} (h : ∀ j, j < k → entAt es j = true) : 0 ≤ prevC es k ∧ prevC es k ≤ 4 := by
  unfold prevC
  split
  · omega
  · have h1 := (figB_iff _ _).1 (h (k - 1) (by omega))
    induction k with
    | zero => omega
    | succ k ih =>
      simp only [Nat.add_sub_cancel] at h1 ⊢
      have h2 : 0 ≤ prevC es k := by
        unfold prevC
        split
        · omega
        · exact (ih (fun j hj => h j (by omega)) (by omega) ((figB_iff _ _).1 (h (k - 1) (by omega)))).1
      omega
end Go.Proofs.Ytofedboeggdkaaa

/-! What an ask does to a game, as a plain function; no program; no condition. -/
namespace Go.Proofs.Ytofedboeggdkaaa
open Go.RowKit

/-- The place of a client's figure. -/
def figAt (es : List Rq) (c : Int) : Option Nat := es.findIdx? (fun e => e.c == c)
def nearB (a b : Rq) : Bool := inB (a.n - b.n) (-1) 1 && inB (a.o - b.o) (-1) 1
/-- The square of a figure. -/
def sqOf (e : Rq) : Nat := (e.o * 4 + e.n).toNat
def addAt (zs : List Int) (i : Nat) (x : Int) : List Int := zs.set i (zs.getD i 0 + x)
def joinE (es : List Rq) (c : Int) : List Rq := es.takeWhile (fun e => decide (e.c < c)) ++ ⟨c, c - 1, c - 1, 3, 0⟩ :: es.dropWhile (fun e => decide (e.c < c))
/-- A hit: one life less; without one the figure goes, its gold onto the floor. -/
def hitG (g : Gm) (n : Nat) : Gm :=
  let e := entN g.es n
  if e.x - 1 ≤ 0 then ⟨g.es.eraseIdx n, addAt g.fl (sqOf e) e.y, g.la⟩ else ⟨g.es.set n { e with x := e.x - 1 }, g.fl, g.la⟩
/-- What figure k does at an ask that is none of joining. -/
def actG (g : Gm) (k : Nat) (r : Rq) : Gm × Int :=
  let e := entN g.es k
  if r.o = 2 then
    (if inB (e.n + r.x) 0 3 && inB (e.o + r.y) 0 3 then (⟨g.es.set k { e with n := e.n + r.x, o := e.o + r.y }, g.fl, g.la⟩, 0) else (g, 6))
  else if r.o = 3 then
    (if g.fl.getD (sqOf e) 0 = 0 then (g, 7) else (⟨g.es.set k { e with y := e.y + 1 }, addAt g.fl (sqOf e) (-1), g.la⟩, 0))
  else
    match figAt g.es r.x with
    | none => (g, 8)
    | some n =>
      if n = k ∨ nearB e (entN g.es n) = false then (g, 8)
      else if r.o = 4 then (hitG g n, 0)
      else if e.y < r.y then (g, 7)
      else (⟨(g.es.set n { (entN g.es n) with y := (entN g.es n).y + r.y }).set k { e with y := e.y - r.y }, g.fl, g.la⟩, 0)
/-- An ask that is ok, or none, done. -/
def doG (g : Gm) (r : Rq) : Gm × Int :=
  if r = ⟨0, 0, 0, 0, 0⟩ then (g, 2)
  else if r.n ≤ g.la.getD (r.c - 1).toNat 0 then (g, 3)
  else
    let h : Gm := ⟨g.es, g.fl, g.la.set (r.c - 1).toNat r.n⟩
    match figAt g.es r.c with
    | some k => if r.o = 1 then (h, 4) else actG h k r
    | none => if r.o = 1 then (⟨joinE g.es r.c, h.fl, h.la⟩, 0) else (h, 5)
/-- GameDo. -/
def gameDo (g : Gm) (r : Rq) (good : Bool) : Gm × Int := if gameB g && good then doG g r else (⟨[], [], []⟩, 1)

theorem okB_op' {c n o x y : Int} (h : okB c n o x y = true) : 1 ≤ c ∧ c ≤ 4 ∧ 1 ≤ n ∧ n ≤ 30 ∧ (o ≠ 1 → o ≠ 2 → o ≠ 3 → o ≠ 4 → 0 ≤ y) := by
  unfold okB at h
  simp only [Bool.and_eq_true, inB_iff] at h
  obtain ⟨⟨hc, hn⟩, h⟩ := h
  refine ⟨hc.1, hc.2, hn.1, hn.2, fun h1 h2 h3 h4 => ?_⟩
  rw [if_neg (by omega), if_neg h2, if_neg h4] at h
  split at h
  · simp only [Bool.and_eq_true, inB_iff] at h; omega
  · cases h

/-- Asked once more it is old. -/
theorem doG_last (g : Gm) (r : Rq) (h : r ≠ ⟨0, 0, 0, 0, 0⟩) (h2 : ¬ r.n ≤ g.la.getD (r.c - 1).toNat 0) : (doG g r).1.la = g.la.set (r.c - 1).toNat r.n := by
  unfold doG
  rw [if_neg h, if_neg h2]
  simp only
  split
  · split
    · rfl
    · unfold actG hitG
      simp only
      repeat' split
      all_goals rfl
  · split <;> rfl

theorem doG_again (g : Gm) (r : Rq) (h : r ≠ ⟨0, 0, 0, 0, 0⟩) (hc0 : 1 ≤ r.c) (hc1 : r.c ≤ 4) (hl : g.la.length = 4) : doG (doG g r).1 r = ((doG g r).1, 3) := by
  have hi : (r.c - 1).toNat < g.la.length := by omega
  by_cases h2 : r.n ≤ g.la.getD (r.c - 1).toNat 0
  · have e : doG g r = (g, 3) := by unfold doG; rw [if_neg h, if_pos h2]
    rw [e]; exact e
  · have e := doG_last g r h h2
    generalize (doG g r).1 = x at *
    unfold doG
    rw [if_neg h, if_pos]
    rw [e, List.getD_eq_getElem?_getD, List.getElem?_set_self hi]
    exact Int.le_refl _

/-- A figure, whatever stands ahead of it. -/
def FigOk (e : Rq) : Prop := (1 ≤ e.c ∧ e.c ≤ 4) ∧ (0 ≤ e.n ∧ e.n ≤ 3) ∧ (0 ≤ e.o ∧ e.o ≤ 3) ∧ (0 ≤ e.x ∧ e.x ≤ 3) ∧ (0 ≤ e.y ∧ e.y ≤ 20)
/-- Figures are ok: each is one, their clients ascend. -/
theorem entsB_iff2 (es : List Rq) : entsB es = true ↔ (∀ e ∈ es, FigOk e) ∧ es.Pairwise (fun a b => a.c < b.c) := by
  rw [entsB_iff]
  constructor
  · intro h
    have hp : ∀ j, j < es.length → FigOk (entN es j) ∧ (0 < j → (entN es (j - 1)).c < (entN es j).c) := fun j hj => by
      have h1 := (figB_iff _ _).1 (h j hj)
      have h2 := prev_bound (es := es) (k := j) (fun i hi => h i (by omega))
      refine ⟨⟨⟨by omega, by omega⟩, by omega, by omega, by omega, by omega⟩, fun h0 => ?_⟩
      unfold prevC at h1
      rw [if_neg (by omega)] at h1
      omega
    have hm : ∀ d i, i + d + 1 < es.length → (entN es i).c < (entN es (i + d + 1)).c := by
      intro d
      induction d with
      | zero => intro i hi; exact (hp (i + 1) hi).2 (by omega)
      | succ d ih =>
        intro i hi
        have a := ih i (by omega)
        have b := (hp (i + (d + 1) + 1) hi).2 (by omega)
        exact Int.lt_trans a b
    refine ⟨fun e he => ?_, ?_⟩
    · obtain ⟨j, hj, rfl⟩ := List.getElem_of_mem he
      rw [← entN_get hj]; exact (hp j hj).1
    · rw [List.pairwise_iff_getElem]
      intro i j hi hj hij
      have := hm (j - i - 1) i (by omega)
      rw [show i + (j - i - 1) + 1 = j by omega, entN_get hi, entN_get hj] at this
      exact this
  · rintro ⟨h1, h2⟩ j hj
    have hj1 := h1 _ (List.getElem_mem hj)
    unfold entAt
    rw [figB_iff, entN_get hj]
    refine ⟨⟨?_, hj1.1.2⟩, hj1.2.1, hj1.2.2.1, hj1.2.2.2.1, hj1.2.2.2.2⟩
    unfold prevC
    split
    · exact hj1.1.1
    · have h3 := (List.pairwise_iff_getElem.1 h2) (j - 1) j (by omega) hj (by omega)
      rw [entN_get (by omega)]
      omega

theorem gameB_iff (g : Gm) : gameB g = true ↔ ((∀ e ∈ g.es, FigOk e) ∧ g.es.Pairwise (fun a b => a.c < b.c)) ∧ (∀ n ∈ g.fl, 0 ≤ n ∧ n ≤ 20) ∧ (∀ n ∈ g.la, 0 ≤ n ∧ n ≤ 30) ∧ g.fl.length = 16 ∧ g.la.length = 4 ∧ golds g.es + g.fl.sum = 20 := by
  unfold gameB
  simp only [Bool.and_eq_true, List.all_eq_true, inB_iff, beq_iff_eq, entsB_iff2]
  constructor
  · rintro ⟨⟨⟨⟨⟨a, b⟩, c⟩, d⟩, e⟩, f⟩; exact ⟨a, b, c, d, e, f⟩
  · rintro ⟨a, b, c, d, e, f⟩; exact ⟨⟨⟨⟨⟨a, b⟩, c⟩, d⟩, e⟩, f⟩

theorem sum_nonneg {zs : List Int} (h : ∀ n ∈ zs, 0 ≤ n) : 0 ≤ zs.sum := by
  induction zs with
  | nil => simp
  | cons z zs ih =>
    have := ih (fun n hn => h n (List.mem_cons_of_mem _ hn))
    have := h z (List.mem_cons_self)
    rw [List.sum_cons]; omega
theorem sum_set (zs : List Int) (i : Nat) (x : Int) (h : i < zs.length) : (zs.set i x).sum = zs.sum - zs[i] + x := by
  induction zs generalizing i with
  | nil => cases h
  | cons z zs ih =>
    cases i with
    | zero => simp only [List.set_cons_zero, List.sum_cons, List.getElem_cons_zero]; omega
    | succ i =>
      have := ih i (by simpa using h)
      simp only [List.set_cons_succ, List.sum_cons, List.getElem_cons_succ, this]; omega
theorem sum_ge {zs : List Int} (h : ∀ n ∈ zs, 0 ≤ n) (i : Nat) (hi : i < zs.length) : zs[i] ≤ zs.sum := by
  have h1 := sum_set zs i 0 hi
  have h2 := sum_nonneg (zs := zs.set i 0) (fun n hn => by
    rcases List.mem_or_eq_of_mem_set hn with h' | h'
    · exact h n h'
    · omega)
  omega
theorem golds_set (es : List Rq) (i : Nat) (e : Rq) (h : i < es.length) : golds (es.set i e) = golds es - es[i].y + e.y := by
  unfold golds
  rw [List.map_set, sum_set _ _ _ (by simpa using h)]
  simp
theorem golds_erase (es : List Rq) (i : Nat) (h : i < es.length) : golds (es.eraseIdx i) = golds es - es[i].y := by
  induction es generalizing i with
  | nil => cases h
  | cons z zs ih =>
    cases i with
    | zero => simp only [golds, List.eraseIdx_cons_zero, List.map_cons, List.sum_cons, List.getElem_cons_zero]; omega
    | succ i =>
      have := ih i (by simpa using h)
      simp only [golds, List.eraseIdx_cons_succ, List.map_cons, List.sum_cons, List.getElem_cons_succ] at this ⊢
      omega

/-- Figures in order. -/
def EntsOk (es : List Rq) : Prop := (∀ e ∈ es, FigOk e) ∧ es.Pairwise (fun a b => a.c < b.c)
theorem EntsOk.set {es : List Rq} (h : EntsOk es) {i : Nat} (hi : i < es.length) {e : Rq} (he : FigOk e) (hc : e.c = es[i].c) : EntsOk (es.set i e) := by
  refine ⟨fun x hx => ?_, ?_⟩
  · rcases List.mem_or_eq_of_mem_set hx with h' | h'
    · exact h.1 x h'
    · rw [h']; exact he
  · have hcs : ∀ (a : Nat) (ha : a < (es.set i e).length), ((es.set i e)[a]).c = (es[a]'(by simpa using ha)).c := fun a ha => by
      rw [List.getElem_set]
      split
      · rename_i hia
        subst hia
        exact hc
      · rfl
    rw [List.pairwise_iff_getElem]
    intro a b ha hb hab
    rw [hcs, hcs]
    exact (List.pairwise_iff_getElem.1 h.2) a b _ _ hab
theorem EntsOk.erase {es : List Rq} (h : EntsOk es) (i : Nat) : EntsOk (es.eraseIdx i) :=
  ⟨fun x hx => h.1 x (List.mem_of_mem_eraseIdx hx), h.2.sublist (List.eraseIdx_sublist es i)⟩
theorem figAt_some {es : List Rq} {c : Int} {k : Nat} (h : figAt es c = some k) : ∃ hk : k < es.length, es[k].c = c := by
  unfold figAt at h
  obtain ⟨hk, h1, _⟩ := List.findIdx?_eq_some_iff_getElem.1 h
  exact ⟨hk, by simpa using h1⟩
theorem figAt_none {es : List Rq} {c : Int} (h : figAt es c = none) : ∀ e ∈ es, e.c ≠ c := by
  unfold figAt at h
  rw [List.findIdx?_eq_none_iff] at h
  intro e he
  simpa using h e he
theorem EntsOk.join {es : List Rq} (h : EntsOk es) {c : Int} (h0 : 1 ≤ c) (h1 : c ≤ 4) (hn : ∀ e ∈ es, e.c ≠ c) : EntsOk (joinE es c) := by
  have happ : es.takeWhile (fun e => decide (e.c < c)) ++ es.dropWhile (fun e => decide (e.c < c)) = es := List.takeWhile_append_dropWhile
  have hp := h.2
  rw [← happ, List.pairwise_append] at hp
  obtain ⟨p1, p2, p3⟩ := hp
  have ht : ∀ e ∈ es.takeWhile (fun e => decide (e.c < c)), e.c < c := fun e he => by
    have ha := List.all_takeWhile (p := fun e : Rq => decide (e.c < c)) (l := es)
    rw [List.all_eq_true] at ha
    simpa using ha e he
  have hd : ∀ e ∈ es.dropWhile (fun e => decide (e.c < c)), c < e.c := by
    intro e he
    have hne := hn e ((List.dropWhile_sublist _).subset he)
    cases hdw : es.dropWhile (fun e => decide (e.c < c)) with
    | nil => rw [hdw] at he; cases he
    | cons x xs =>
      have hx : ¬ x.c < c := by
        have := List.head?_dropWhile_not (fun e : Rq => decide (e.c < c)) es
        rw [hdw] at this
        simpa using this
      have hxn := hn x ((List.dropWhile_sublist _).subset (by rw [hdw]; exact List.mem_cons_self))
      rw [hdw] at he p2
      rcases List.mem_cons.1 he with h' | h'
      · subst h'; omega
      · have := (List.pairwise_cons.1 p2).1 e h'
        omega
  unfold joinE
  refine ⟨fun e he => ?_, ?_⟩
  · rcases List.mem_append.1 he with h' | h'
    · exact h.1 e ((List.takeWhile_sublist _).subset h')
    · rcases List.mem_cons.1 h' with h'' | h''
      · subst h''; exact ⟨⟨h0, h1⟩, ⟨by show 0 ≤ c - 1; omega, by show c - 1 ≤ 3; omega⟩, ⟨by show 0 ≤ c - 1; omega, by show c - 1 ≤ 3; omega⟩, ⟨by show (0 : Int) ≤ 3; omega, by show (3 : Int) ≤ 3; omega⟩, ⟨by show (0 : Int) ≤ 0; omega, by show (0 : Int) ≤ 20; omega⟩⟩
      · exact h.1 e ((List.dropWhile_sublist _).subset h'')
  · rw [List.pairwise_append]
    refine ⟨p1, List.pairwise_cons.2 ⟨fun e he => hd e he, p2⟩, fun a ha b hb => ?_⟩
    rcases List.mem_cons.1 hb with h' | h'
    · subst h'; exact ht a ha
    · exact p3 a ha b h'
theorem golds_join (es : List Rq) (c : Int) : golds (joinE es c) = golds es := by
  have happ : es.takeWhile (fun e => decide (e.c < c)) ++ es.dropWhile (fun e => decide (e.c < c)) = es := List.takeWhile_append_dropWhile
  have h := congrArg golds happ
  unfold joinE golds at *
  simp only [List.map_append, List.sum_append, List.map_cons, List.sum_cons] at h ⊢
  omega

theorem sq_lt {e : Rq} (h : FigOk e) : sqOf e < 16 := by
  unfold sqOf
  obtain ⟨_, h1, h2, _⟩ := h
  omega
theorem addAt_sum (zs : List Int) (i : Nat) (x : Int) (h : i < zs.length) : (addAt zs i x).sum = zs.sum + x := by
  unfold addAt
  rw [sum_set _ _ _ h, List.getD_eq_getElem?_getD, List.getElem?_eq_getElem h]
  simp only [Option.getD_some]
  omega
theorem golds_nonneg {es : List Rq} (h : ∀ e ∈ es, FigOk e) : 0 ≤ golds es :=
  sum_nonneg (fun n hn => by obtain ⟨e, he, rfl⟩ := List.mem_map.1 hn; exact (h e he).2.2.2.2.1)
theorem golds_ge {es : List Rq} (h : ∀ e ∈ es, FigOk e) (i : Nat) (hi : i < es.length) : es[i].y ≤ golds es := by
  have := sum_ge (zs := es.map Rq.y) (fun n hn => by obtain ⟨e, he, rfl⟩ := List.mem_map.1 hn; exact (h e he).2.2.2.2.1) i (by simpa using hi)
  simpa [golds] using this
theorem golds_two {es : List Rq} (h : ∀ e ∈ es, FigOk e) {i j : Nat} (hi : i < es.length) (hj : j < es.length) (hij : i ≠ j) : es[i].y + es[j].y ≤ golds es := by
  have h0 : FigOk { es[i] with y := 0 } := by
    have := h _ (List.getElem_mem hi)
    exact ⟨this.1, this.2.1, this.2.2.1, this.2.2.2.1, by show (0 : Int) ≤ 0; omega, by show (0 : Int) ≤ 20; omega⟩
  have h1 := golds_ge (es := es.set i { es[i] with y := 0 }) (fun e he => by
    rcases List.mem_or_eq_of_mem_set he with h' | h'
    · exact h e h'
    · rw [h']; exact h0) j (by simpa using hj)
  rw [golds_set es i _ hi, List.getElem_set_ne hij] at h1
  have e0 : ({ es[i] with y := 0 } : Rq).y = 0 := rfl
  omega

/-- A game with the floor's and the figures' gold told apart. -/
theorem gameB_of {g : Gm} (h1 : EntsOk g.es) (h2 : ∀ n ∈ g.fl, 0 ≤ n) (h3 : ∀ n ∈ g.la, 0 ≤ n ∧ n ≤ 30) (h4 : g.fl.length = 16) (h5 : g.la.length = 4) (h6 : golds g.es + g.fl.sum = 20) : gameB g = true := by
  rw [gameB_iff]
  refine ⟨h1, fun n hn => ⟨h2 n hn, ?_⟩, h3, h4, h5, h6⟩
  obtain ⟨i, hi, rfl⟩ := List.getElem_of_mem hn
  have := sum_ge h2 i hi
  have := golds_nonneg h1.1
  omega

theorem hitG_ok {g : Gm} {n : Nat} (hg : gameB g = true) (hn : n < g.es.length) : gameB (hitG g n) = true := by
  rw [gameB_iff] at hg
  obtain ⟨h1, h2, h3, h4, h5, h6⟩ := hg
  have h2' : ∀ n ∈ g.fl, 0 ≤ n := fun n hn => (h2 n hn).1
  have hE : EntsOk g.es := h1
  have hf := hE.1 _ (List.getElem_mem hn)
  unfold hitG
  simp only [entN_get hn]
  split
  · have hs : sqOf g.es[n] < g.fl.length := by rw [h4]; exact sq_lt hf
    refine gameB_of (hE.erase n) ?_ h3 (by show (addAt _ _ _).length = 16; unfold addAt; rw [List.length_set]; exact h4) h5 ?_
    · intro m hm
      rcases List.mem_or_eq_of_mem_set hm with h' | h'
      · exact h2' m h'
      · rw [h', List.getD_eq_getElem?_getD, List.getElem?_eq_getElem hs]
        simp only [Option.getD_some]
        have := h2' _ (List.getElem_mem hs)
        have := hf.2.2.2.2
        omega
    · show golds (g.es.eraseIdx n) + (addAt _ _ _).sum = 20
      rw [golds_erase _ _ hn, addAt_sum _ _ _ hs]
      omega
  · rename_i hx
    refine gameB_of (hE.set hn ⟨hf.1, hf.2.1, hf.2.2.1, ⟨by show 0 ≤ g.es[n].x - 1; omega, by show g.es[n].x - 1 ≤ 3; have := hf.2.2.2.1; omega⟩, hf.2.2.2.2⟩ rfl) h2' h3 h4 h5 ?_
    show golds (g.es.set n _) + _ = 20
    rw [golds_set _ _ _ hn]
    show golds g.es - g.es[n].y + g.es[n].y + g.fl.sum = 20
    omega

set_option maxHeartbeats 1000000 in
theorem actG_ok {g : Gm} {k : Nat} {r : Rq} (hg : gameB g = true) (hk : k < g.es.length) (hr : r.o ≠ 2 → r.o ≠ 3 → r.o ≠ 4 → 0 ≤ r.y) : gameB (actG g k r).1 = true := by
  have hg' := hg
  rw [gameB_iff] at hg
  obtain ⟨h1, h2, h3, h4, h5, h6⟩ := hg
  have h2' : ∀ n ∈ g.fl, 0 ≤ n := fun n hn => (h2 n hn).1
  have hE : EntsOk g.es := h1
  have hf := hE.1 _ (List.getElem_mem hk)
  have hen := entN_get hk
  unfold actG
  simp only [hen]
  split
  · split
    · rename_i hb
      simp only [Bool.and_eq_true, inB_iff] at hb
      refine gameB_of (hE.set hk ⟨hf.1, hb.1, hb.2, hf.2.2.2.1, hf.2.2.2.2⟩ rfl) h2' h3 h4 h5 ?_
      show golds (g.es.set k _) + _ = 20
      rw [golds_set _ _ _ hk]
      show golds g.es - g.es[k].y + g.es[k].y + g.fl.sum = 20
      omega
    · exact hg'
  · split
    · split
      · exact hg'
      · rename_i hz
        have hs : sqOf g.es[k] < g.fl.length := by rw [h4]; exact sq_lt hf
        have hge := golds_ge hE.1 k hk
        have hge2 := sum_ge h2' _ hs
        have hz' : ¬ g.fl[sqOf g.es[k]] = 0 := by
          rw [List.getD_eq_getElem?_getD, List.getElem?_eq_getElem hs] at hz; exact hz
        have hz2 := h2' _ (List.getElem_mem hs)
        refine gameB_of (hE.set hk ⟨hf.1, hf.2.1, hf.2.2.1, hf.2.2.2.1, by show 0 ≤ g.es[k].y + 1; have := hf.2.2.2.2; omega, by show g.es[k].y + 1 ≤ 20; omega⟩ rfl) ?_ h3 (by show (addAt _ _ _).length = 16; unfold addAt; rw [List.length_set]; exact h4) h5 ?_
        · intro n hn
          rcases List.mem_or_eq_of_mem_set hn with h' | h'
          · exact h2' n h'
          · rw [h', List.getD_eq_getElem?_getD, List.getElem?_eq_getElem hs]
            simp only [Option.getD_some]
            omega
        · show golds (g.es.set k _) + (addAt _ _ _).sum = 20
          rw [golds_set _ _ _ hk, addAt_sum _ _ _ hs]
          show golds g.es - g.es[k].y + (g.es[k].y + 1) + (g.fl.sum + -1) = 20
          omega
    · split
      · exact hg'
      · rename_i n hn
        obtain ⟨hnl, _⟩ := figAt_some hn
        split
        · exact hg'
        · rename_i hnk
          split
          · exact hitG_ok hg' hnl
          · split
            · exact hg'
            · rename_i q2 q3 _ _ q4 hry
              have hnk' : n ≠ k := fun hh => hnk (.inl hh)
              have hr0 := hr q2 q3 q4
              have hfn := hE.1 _ (List.getElem_mem hnl)
              have h2g := golds_two hE.1 hnl hk hnk'
              have hfl := sum_nonneg h2'
              have fn : FigOk { g.es[n] with y := g.es[n].y + r.y } := ⟨hfn.1, hfn.2.1, hfn.2.2.1, hfn.2.2.2.1, by show 0 ≤ g.es[n].y + r.y; have := hfn.2.2.2.2; omega, by show g.es[n].y + r.y ≤ 20; omega⟩
              have fk : FigOk { g.es[k] with y := g.es[k].y - r.y } := ⟨hf.1, hf.2.1, hf.2.2.1, hf.2.2.2.1, by show 0 ≤ g.es[k].y - r.y; omega, by show g.es[k].y - r.y ≤ 20; have := hf.2.2.2.2; omega⟩
              have hk1 : k < (g.es.set n { g.es[n] with y := g.es[n].y + r.y }).length := by simpa using hk
              have hek : (g.es.set n { g.es[n] with y := g.es[n].y + r.y })[k] = g.es[k] := List.getElem_set_ne hnk' hk1
              simp only [entN_get hnl]
              refine gameB_of ((hE.set hnl fn rfl).set hk1 fk (by rw [hek])) h2' h3 h4 h5 ?_
              show golds ((g.es.set n _).set k _) + g.fl.sum = 20
              rw [golds_set _ _ _ hk1, golds_set _ _ _ hnl, hek]
              show golds g.es - g.es[n].y + (g.es[n].y + r.y) - g.es[k].y + (g.es[k].y - r.y) + g.fl.sum = 20
              omega

theorem doG_ok {g : Gm} {r : Rq} (hg : gameB g = true) (hr : okB r.c r.n r.o r.x r.y = true ∨ r = ⟨0, 0, 0, 0, 0⟩) : gameB (doG g r).1 = true := by
  unfold doG
  split
  · exact hg
  · rename_i hne
    have hk := (hr.resolve_right hne)
    have hb := okB_op' hk
    split
    · exact hg
    · have hg0 := hg
      rw [gameB_iff] at hg0
      obtain ⟨h1, h2, h3, h4, h5, h6⟩ := hg0
      have hE : EntsOk g.es := h1
      have h2' : ∀ n ∈ g.fl, 0 ≤ n := fun n hn => (h2 n hn).1
      have h3' : ∀ n ∈ g.la.set (r.c - 1).toNat r.n, 0 ≤ n ∧ n ≤ 30 := fun n hn => by
        rcases List.mem_or_eq_of_mem_set hn with h' | h'
        · exact h3 n h'
        · rw [h']; omega
      have hh : gameB ⟨g.es, g.fl, g.la.set (r.c - 1).toNat r.n⟩ = true := gameB_of hE h2' h3' h4 (by simpa using h5) h6
      simp only
      split
      · rename_i k hk'
        obtain ⟨hkl, _⟩ := figAt_some hk'
        split
        · exact hh
        · rename_i ho1
          exact actG_ok hh hkl (fun q2 q3 q4 => hb.2.2.2.2 ho1 q2 q3 q4)
      · rename_i hk'
        split
        · exact gameB_of (hE.join hb.1 hb.2.1 (figAt_none hk')) h2' h3' h4 (by simpa using h5) (by show golds (joinE _ _) + _ = 20; rw [golds_join]; exact h6)
        · exact hh

theorem actG_code (g : Gm) (k : Nat) (r : Rq) (h : (actG g k r).2 ≠ 0) : (actG g k r).1 = g := by
  unfold actG at h ⊢
  simp only at h ⊢
  repeat' split
  all_goals simp_all
/-- What does not go changes nothing but the number. -/
theorem doG_code (g : Gm) (r : Rq) (h : (doG g r).2 ≠ 0) : (doG g r).1.es = g.es ∧ (doG g r).1.fl = g.fl := by
  unfold doG at h ⊢
  split
  · exact ⟨rfl, rfl⟩
  · rename_i h1
    rw [if_neg h1] at h
    split
    · exact ⟨rfl, rfl⟩
    · rename_i h2
      rw [if_neg h2] at h
      simp only at h ⊢
      split
      · rename_i k hk
        rw [hk] at h
        simp only at h
        split
        · exact ⟨rfl, rfl⟩
        · rename_i h3
          rw [if_neg h3] at h
          rw [actG_code _ _ _ h]
          exact ⟨rfl, rfl⟩
      · rename_i hk
        rw [hk] at h
        simp only at h
        split
        · rename_i h3
          rw [if_pos h3] at h
          exact absurd rfl h
        · exact ⟨rfl, rfl⟩
end Go.Proofs.Ytofedboeggdkaaa

/-! Regions that draw their order and whose callees lay blocks: contracts and blocks over every world of the class; no condition. -/
namespace Go.Proofs.Ytofedboeggdkaaa
open Go.RowKit Go.Joins

theorem quietC {P : Program} {f : FuncId} {args : Array Value} {w : World} {v : Value} (h : ∀ W, Below w.heap.size w W → Calls P f args W fun e w' => e = .returned v ∧ Below W.heap.size W w') :
    ∀ d os, Calls P f args (Sort.grow (redrawn w d) os) fun e w'' => e = .returned v ∧ ∃ p : Regrown, w'' = Sort.grow (redrawn w p.d) p.os := fun d os => Calls.regrown_of (h _ (below_regrown w d os))
theorem cellRe {w : World} {b : Nat} {cs : Array Value} {t : TypeId} {fr : Nat × Nat} (h : w.heap[b]? = some (.cells cs t fr)) (d : Nat) (os : Array Obj) (i : Nat) : (Sort.grow (redrawn w d) os).cell? ⟨b, i, none⟩ = cs[i]? :=
  ((below_regrown w d os).cell (p := ⟨b, i, none⟩) (lt_of_block h)).trans (cell_of_block h i)
end Go.Proofs.Ytofedboeggdkaaa

/-! What asks do to a game, one behind the other, as plain functions; no program; no condition. -/
namespace Go.Proofs.Ytofedboeggdkaaa
open Go.RowKit

/-- The floor of a new game, and a new game. -/
def newG : Gm := ⟨[], [2, 1, 1, 1, 1, 2, 1, 1, 1, 1, 2, 1, 1, 1, 1, 2], [0, 0, 0, 0]⟩
def emptyG : Gm := ⟨[], [], []⟩
def foldG (g : Gm) (rs : List Rq) : Gm := rs.foldl (fun g r => (doG g r).1) g
def codesG (g : Gm) : List Rq → List Int
  | [] => []
  | r :: rs => (doG g r).2 :: codesG (doG g r).1 rs
/-- GameFold. -/
def gfold (rs : List Rq) : Gm := if rs.length ≤ 60 ∧ rs.all good = true then foldG newG rs else emptyG

theorem newG_ok : gameB newG = true := by decide
theorem good_or {r : Rq} (h : good r = true) : okB r.c r.n r.o r.x r.y = true ∨ r = ⟨0, 0, 0, 0, 0⟩ := by
  unfold good goodB at h
  by_cases hz : r = ⟨0, 0, 0, 0, 0⟩
  · exact .inr hz
  · have hn : eqR r.c r.n r.o r.x r.y 0 0 0 0 0 = false := eqR_ne (s := ⟨0, 0, 0, 0, 0⟩) hz
    rw [hn, Bool.false_or] at h
    exact .inl h
theorem foldG_snoc (g : Gm) (rs : List Rq) (r : Rq) : foldG g (rs ++ [r]) = (doG (foldG g rs) r).1 := by
  unfold foldG
  rw [List.foldl_append]
  rfl
theorem foldG_append (g : Gm) (rs ss : List Rq) : foldG g (rs ++ ss) = foldG (foldG g rs) ss := by
  unfold foldG
  rw [List.foldl_append]
theorem foldG_ok : ∀ (rs : List Rq) (g : Gm), gameB g = true → rs.all good = true → gameB (foldG g rs) = true
  | [], g, hg, _ => hg
  | r :: rs, g, hg, h => by
    rw [List.all_cons, Bool.and_eq_true] at h
    exact foldG_ok rs (doG g r).1 (doG_ok hg (good_or h.1)) h.2
theorem foldG_new_ok {rs : List Rq} (h : rs.all good = true) : gameB (foldG newG rs) = true := foldG_ok rs newG newG_ok h
theorem foldG_take_succ {rs : List Rq} {k : Nat} (g : Gm) (h : k < rs.length) : foldG g (rs.take (k + 1)) = (doG (foldG g (rs.take k)) rs[k]).1 := by
  rw [List.take_succ_eq_append_getElem h, foldG_snoc]
theorem all_takeG {rs : List Rq} (k : Nat) (h : rs.all good = true) : (rs.take k).all good = true := by
  rw [List.all_eq_true] at h ⊢
  exact fun z hz => h z (List.mem_of_mem_take hz)
theorem all_dropG {rs : List Rq} (k : Nat) (h : rs.all good = true) : (rs.drop k).all good = true := by
  rw [List.all_eq_true] at h ⊢
  exact fun z hz => h z (List.mem_of_mem_drop hz)
theorem all_getG {rs : List Rq} {k : Nat} (h : rs.all good = true) (hk : k < rs.length) : good rs[k] = true := List.all_eq_true.1 h _ (List.getElem_mem hk)
theorem gfold_yes {rs : List Rq} (h1 : rs.length ≤ 60) (h2 : rs.all good = true) : gfold rs = foldG newG rs := by unfold gfold; rw [if_pos ⟨h1, h2⟩]
theorem gfold_no {rs : List Rq} (h : ¬ (rs.length ≤ 60 ∧ rs.all good = true)) : gfold rs = emptyG := by unfold gfold; rw [if_neg h]
theorem gameDo_yes {g : Gm} {r : Rq} (hg : gameB g = true) (hr : good r = true) : gameDo g r (good r) = doG g r := by unfold gameDo; rw [hg, hr]; rfl
theorem gameDo_no {g : Gm} {r : Rq} (h : gameB g = false ∨ good r = false) : gameDo g r (good r) = (emptyG, 1) := by
  unfold gameDo
  rcases h with h | h <;> rw [h] <;> simp [emptyG]
theorem codesG_length : ∀ (rs : List Rq) (g : Gm), (codesG g rs).length = rs.length
  | [], _ => rfl
  | r :: rs, g => by simp [codesG, codesG_length rs]
theorem codesG_snoc : ∀ (rs : List Rq) (g : Gm) (r : Rq), codesG g (rs ++ [r]) = codesG g rs ++ [(doG (foldG g rs) r).2]
  | [], g, r => rfl
  | q :: rs, g, r => by simp only [List.cons_append, codesG, codesG_snoc rs]; rfl
theorem codesG_get {rs : List Rq} {g : Gm} {k : Nat} (h : k < rs.length) : (codesG g rs)[k]'(by rw [codesG_length]; exact h) = (doG (foldG g (rs.take k)) rs[k]).2 := by
  have h1 : rs = rs.take k ++ rs[k] :: rs.drop (k + 1) := by
    rw [← List.drop_eq_getElem_cons h, List.take_append_drop]
  have key : ∀ (xs : List Rq) (g : Gm) (r : Rq) (ys : List Rq), codesG g (xs ++ r :: ys) = codesG g xs ++ (doG (foldG g xs) r).2 :: codesG (doG (foldG g xs) r).1 ys := by
    intro xs
    induction xs with
    | nil => intro g r ys; rfl
    | cons x xs ih => intro g r ys; simp only [List.cons_append, codesG, ih]; rfl
  have h2 := key (rs.take k) g rs[k] (rs.drop (k + 1))
  rw [← h1] at h2
  have hl : (codesG g (rs.take k)).length = k := by rw [codesG_length, List.length_take]; omega
  simp only [h2]
  rw [List.getElem_append_right (by omega)]
  simp [hl]
end Go.Proofs.Ytofedboeggdkaaa

/-! Contracts of l1Dec (decimals), l1Words, l1None, l1Put and the reference's ReqPut; condition: 64-bit numbers. -/
namespace Go.Proofs.Ytofedboeggdkaaa
open Go.RowKit Go.Joins

theorem str_append (l m : List UInt8) : (⟨l.toArray⟩ : ByteArray) ++ ⟨m.toArray⟩ = ⟨(l ++ m).toArray⟩ := by
  apply ByteArray.ext
  simp
theorem ret_str {a b : ByteArray} (h : a = b) : Ending.returned (.string a) = .returned (.string b) := by rw [h]
theorem dec_snoc (u : Nat) (h : 10 ≤ u) : (⟨(Lib.decDigits (u / 10)).toArray⟩ : ByteArray) ++ ⟨#[48 + UInt8.ofNat (u % 10)]⟩ = ⟨(Lib.decDigits u).toArray⟩ := by
  have h1 : Lib.decDigits u = Lib.decDigits (u / 10) ++ [UInt8.ofNat (48 + u % 10)] := by rw [Lib.decDigits, dif_neg (by omega)]
  rw [h1, ← str_append]
  congr 3
  simp

theorem conv1 (b : Nat) (x : Int) (W : World) (h : W.cell? ⟨b, 0, none⟩ = some (.int .u8 x)) : (convert 39 9 (.slice (some ⟨b, 0, none⟩) 1 1)).run Try.prog W = .ok (.string ⟨#[UInt8.ofNat x.toNat]⟩) W := by
  have hc : ∀ i, i < 1 → W.cell? ⟨b, 0 + i, none⟩ = some (.int .u8 (([x] : List Int).getD i 0)) := by
    intro i hi
    obtain rfl : i = 0 := by omega
    exact h
  exact run_convert_bytes_arg (P := Try.prog) W 39 5 Try.underlying39 Try.underlying5 b 0 1 1 [x] rfl hc 9 Try.underlying9

end Go.Proofs.Ytofedboeggdkaaa

/-! Contracts of l1Words, l1Put and the reference's ReqPut; condition: 64-bit numbers. -/
namespace Go.Proofs.Ytofedboeggdkaaa
open Go.RowKit Go.Joins

theorem wpAnyH_weaken {P : Program} {md : Region.Mode} {ops : Array Oper} {Q : Exit → Act → World → Prop} {S S' : World → Prop} (hs : ∀ w, S' w → S w) :
    ∀ (fuel : Nat) (listed : Array Bool) (a : Act) (w : World), wpAnyH P md ops Q S' fuel listed a w → wpAnyH P md ops Q S fuel listed a w
  | 0, _, _, _, h => h
  | fuel + 1, _, _, _, h => ⟨h.1, fun i hi => wpOp_mono (fun a' w' h' => ⟨hs w' h'.1, wpAnyH_weaken hs fuel _ a' w' h'.2⟩) (h.2 i hi)⟩

theorem itoa_len (n : Int) (h0 : -4611686018427387904 ≤ n) (h1 : n ≤ 4611686018427387904) : (Lib.itoa n).length ≤ 21 := Lib.itoa_length_le n (by omega) (by omega)

/-- The words of the operations. -/
def words : List (List UInt8) := [[], [106, 111, 105, 110], [109, 111, 118, 101], [116, 97, 107, 101], [104, 105, 116], [103, 105, 118, 101]]
def wordsBlock : Obj := .cells #[.string ⟨#[]⟩, .string ⟨#[106, 111, 105, 110]⟩, .string ⟨#[109, 111, 118, 101]⟩, .string ⟨#[116, 97, 107, 101]⟩, .string ⟨#[104, 105, 116]⟩, .string ⟨#[103, 105, 118, 101]⟩] 9 (0, 0)
/-- What is written of a request. -/
def putL (c n o x y : Int) : List UInt8 := Lib.itoa c ++ [32] ++ Lib.itoa n ++ [32] ++ words.getD o.toNat [] ++ [32] ++ Lib.itoa x ++ [32] ++ Lib.itoa y

end Go.Proofs.Ytofedboeggdkaaa

/-! Contracts of l1None and of the reference's ReqPut; condition: 64-bit numbers far from the ends. -/
namespace Go.Proofs.Ytofedboeggdkaaa
open Go.RowKit Go.Joins

attribute [local go_sem ↓] eql_rq neq_rq

def noneB (c n o x y : Int) : Bool := eqR c n o x y 0 0 0 0 0

set_option maxHeartbeats 400000 in
theorem l1None_c (c n o x y : Int) (w : World) :
    Calls Try.prog 73 #[.agg #[.int .i64 c, .int .i64 n, .int .i64 o, .int .i64 x, .int .i64 y]] w fun e w' => e = .returned (.bool (noneB c n o x y)) ∧ Below w.heap.size w w' := by
  go_enter Try.func73, Try.ntmps73
  go_wp2
  go_ret
  exact ⟨rfl, (by repeat' (first | with_reducible exact Below.refl _ _ | with_reducible assumption | with_reducible refine Below.alloc ?_ ?_ _ | with_reducible refine Below.drew ?_ | with_reducible refine Below.setCell ?_ ?_ _ | omega | (simp; omega) | (simp; done)))⟩

/-- What the reference's ReqPut gives. -/
def reqPutL (r : Rq) : List UInt8 := if noneB r.c r.n r.o r.x r.y then [110, 111, 110, 101] else if okB r.c r.n r.o r.x r.y then putL r.c r.n r.o r.x r.y else []

theorem okB_op {c n o x y : Int} (h : okB c n o x y = true) : 0 ≤ o ∧ o ≤ 5 ∧ 1 ≤ c ∧ c ≤ 4 ∧ 1 ≤ n ∧ n ≤ 30 ∧ -1 ≤ x ∧ x ≤ 4 ∧ -1 ≤ y ∧ y ≤ 9 := by
  unfold okB at h
  simp only [Bool.and_eq_true, inB_iff] at h
  obtain ⟨⟨hc, hn⟩, h⟩ := h
  split at h
  · simp at h; omega
  · split at h
    · simp [inB] at h; omega
    · split at h
      · simp [inB] at h; omega
      · split at h
        · simp [inB] at h; omega
        · cases h

end Go.Proofs.Ytofedboeggdkaaa

/-! Contracts of the program's copyOf of clients and of games; condition: small sizes. -/
namespace Go.Proofs.Ytofedboeggdkaaa
open Go.RowKit Go.Joins

set_option maxRecDepth 100000 in
set_option maxHeartbeats 4000000 in
theorem copyOfA_c (z : Ah) (a0 a1 : Option Addr) (n0 n1 c0 c1 : Nat) (w : World) (h0 : IsSl w (.slice a0 n0 c0) 5 Rq.cs z.dn) (h1 : IsSl w (.slice a1 n1 c1) 5 Rq.cs z.wt) (hs0 : n0 ≤ 16777216) (hs1 : n1 ≤ 16777216) :
    Calls Try.prog 65 #[.agg #[.slice a0 n0 c0, .slice a1 n1 c1, .int .i64 z.bk]] w fun e w' => ∃ b0 b1, e = .returned (.agg #[.slice b0 n0 n0, .slice b1 n1 n1, .int .i64 z.bk]) ∧ Row w' w.heap.size 34 b0 n0 5 Rq.cs z.dn ∧ Row w' w.heap.size 34 b1 n1 5 Rq.cs z.wt ∧ (∀ g, rowBlk b0 n0 = some g → rowBlk b1 n1 ≠ some g) ∧ Below w.heap.size w w' := by
  have H0 := Lib.hid h0
  have H1 := Lib.hid h1
  clear h0 h1
  go_enter Try.func65, Try.ntmps65
  go_wp2_with fail
  obtain ⟨W, hW, sW, aW, bW, kW⟩ := blocks2 w (.cells #[.slice a0 n0 c0, .slice a1 n1 c1, .int .i64 z.bk] 30) (.cells #[.slice none 0 0, .slice none 0 0, .int .i64 0] 30)
  rw [← hW]
  clear hW
  have hcA := cell_of_block aW
  have HB := Lib.hid bW
  clear bW
  refine wp_region_held_drew (S := fun w' => ((∀ b o, b < w.heap.size + 1 → (w').cell? ⟨b, o, none⟩ = (W).cell? ⟨b, o, none⟩) ∧ Below (w.heap.size + 1) (W) (w'))) (by kernel_rfl) (KeptB.drew (KeptB.refl _ _)) (fun hHeld => ?_)
  refine wpAnyH_take (i := 0) (oi := _) (v := ?_) (by (simp only [List.getElem?_toArray]; rfl)) (by kernel_rfl) (by kernel_rfl) (by kernel_rfl) (by exact fun _ _ _ h => h) (Or.inl ⟨by rfl, ?_⟩) (by assumption) ?_
  rotate_left
  · intro wS hSw
    go_simp
    all_goals first | with_reducible rfl | rw [if_neg (by omega)]
  simp only [Act.put, List.setIfInBounds_toArray, List.set]
  refine wpAnyH_take (i := 1) (oi := _) (v := ?_) (by (simp only [List.getElem?_toArray]; rfl)) (by kernel_rfl) (by kernel_rfl) (by kernel_rfl) (by exact fun _ _ _ h => h) (Or.inl ⟨by rfl, ?_⟩) (by assumption) ?_
  rotate_left
  · intro wS hSw
    go_simp
    all_goals first | with_reducible rfl | rw [if_neg (by omega)]
  simp only [Act.put, List.setIfInBounds_toArray, List.set]
  refine wpAnyH_take (i := 3) (oi := _) (v := ?_) (by (simp only [List.getElem?_toArray]; rfl)) (by kernel_rfl) (by kernel_rfl) (by kernel_rfl) (by exact fun _ _ _ h => h) (Or.inl ⟨by rfl, ?_⟩) (by assumption) ?_
  rotate_left
  · intro wS hSw
    go_simp
    all_goals first | with_reducible rfl | rw [if_neg (by omega)]
  simp only [Act.put, List.setIfInBounds_toArray, List.set]
  refine wpAnyH_take (i := 4) (oi := _) (v := ?_) (by (simp only [List.getElem?_toArray]; rfl)) (by kernel_rfl) (by kernel_rfl) (by kernel_rfl) (by exact fun _ _ _ h => h) (Or.inl ⟨by rfl, ?_⟩) (by assumption) ?_
  rotate_left
  · intro wS hSw
    go_simp
    all_goals first | with_reducible rfl | rw [if_neg (by omega)]
  simp only [Act.put, List.setIfInBounds_toArray, List.set]
  refine wpAnyH_take (i := 6) (oi := _) (v := ?_) (by (simp only [List.getElem?_toArray]; rfl)) (by kernel_rfl) (by kernel_rfl) (by kernel_rfl) (by exact fun _ _ _ h => h) (Or.inl ⟨by rfl, ?_⟩) (by assumption) ?_
  rotate_left
  · intro wS hSw
    go_simp
    all_goals first | with_reducible rfl | rw [if_neg (by omega)]
  simp only [Act.put, List.setIfInBounds_toArray, List.set]
  refine wpAnyH_take (i := 7) (oi := _) (v := ?_) (by (simp only [List.getElem?_toArray]; rfl)) (by kernel_rfl) (by kernel_rfl) (by kernel_rfl) (by exact fun _ _ _ h => h) (Or.inl ⟨by rfl, ?_⟩) (by assumption) ?_
  rotate_left
  · intro wS hSw
    go_simp
    all_goals first | with_reducible rfl | rw [if_neg (by omega)]
  simp only [Act.put, List.setIfInBounds_toArray, List.set]
  clear aW hcA hHeld
  have k := Lib.hid (KeptB.drew (KeptB.refl W.heap.size W))
  refine wpAnyH_ready (rs := [2]) (by kernel_rfl) (by simp) ?_
  refine AllReadyH.cons (o := _) (by (simp only [List.getElem?_toArray]; rfl)) (fun K hK => ?_) AllReadyH.nil
  go_simp
  refine (cloneReq_c a0 n0 c0 z.dn _ (H0.out.below (kW.trans (k.out.2.mono (by omega)))) hs0).mono ?_
  rintro e w1 ⟨b0, rfl, r0, k1⟩
  have t1 := Lib.hid (KeptB.next (Nat.le_refl _) k.out k1)
  have R0 := Lib.hid r0
  clear k1 r0
  refine hK.out _ _ (KeptB.weak t1.out (by omega)) (fun hHeld => ?_)
  clear hK K
  try simp only [Act.put, List.setIfInBounds_toArray, List.set]
  clear hHeld
  refine wpAnyH_ready (rs := [5]) (by kernel_rfl) (by simp) ?_
  refine AllReadyH.cons (o := _) (by (simp only [List.getElem?_toArray]; rfl)) (fun K hK => ?_) AllReadyH.nil
  go_simp
  refine (cloneReq_c a1 n1 c1 z.wt _ (H1.out.below (kW.trans (t1.out.2.mono (by omega)))) hs1).mono ?_
  rintro e w2 ⟨b1, rfl, r1, k2⟩
  have t2 := Lib.hid (KeptB.next (Nat.le_refl _) t1.out k2)
  have p01 := r1.apart R0.out (Nat.le_refl _)
  have R0' := Lib.hid (R0.out.below k2)
  have R1 := Lib.hid (r1.low (Nat.le_trans (show w.heap.size + 2 ≤ W.heap.size by omega) t1.out.2.size))
  clear k2 r1
  have kS := KeptB.weak t2.out (show w.heap.size + 1 ≤ W.heap.size by omega)
  have cz := fun i => (t2.out.1 (w.heap.size + 1) i (by omega)).trans (cell_of_block HB.out i)
  have fz : ∀ i, w2.frozen? ⟨w.heap.size + 1, i, none⟩ = false := fun i => (t2.out.2.frozen (p := ⟨w.heap.size + 1, i, none⟩) (by simp <;> omega)).trans (unfrozen_of_block HB.out i)
  refine hK.out _ _ kS (fun hHeld => ?_)
  clear hK K
  try simp only [Act.put, List.setIfInBounds_toArray, List.set]
  refine wpAnyH_take (i := 8) (oi := _) (v := ?_) (by (simp only [List.getElem?_toArray]; rfl)) (by kernel_rfl) (by kernel_rfl) (by kernel_rfl) (by exact fun _ _ _ h => h) (Or.inl ⟨by rfl, ?_⟩) (by assumption) ?_
  rotate_left
  · intro wS hSw
    go_simp
    all_goals first | with_reducible rfl | rw [if_neg (by omega)]
  simp only [Act.put, List.setIfInBounds_toArray, List.set]
  refine wpAnyH_ready (rs := [9]) (by kernel_rfl) (by simp) ?_
  refine AllReadyH.cons (o := _) (by (simp only [List.getElem?_toArray]; rfl)) (fun K hK => ?_) AllReadyH.nil
  go_simp
  refine hK.out _ _ (KeptB.set (by simp) _ (KeptB.set (by simp) _ (KeptB.set (by simp) _ kS))) (fun hHeld => ?_)
  clear hK K
  try simp only [Act.put, List.setIfInBounds_toArray, List.set]
  refine wpAnyH_done (by kernel_rfl) ?_ _
  go_wp2_with fail
  refine bodyPost_ret (v := .agg #[.slice b0 n0 n0, .slice b1 n1 n1, .int .i64 z.bk]) (by simp [results, Try.results65, go_sem, cz]) rfl ?_
  have sk := k.out.2.size
  refine ⟨b0, b1, rfl, ?_, ?_, p01, ?_⟩
  · exact (((((R0'.out.low (Nat.le_trans (show w.heap.size + 2 ≤ W.heap.size by omega) sk)).setOther (by simp) _).setOther (by simp) _).setOther (by simp) _)).low (by omega)
  · exact (((R1.out.setOther (by simp) _).setOther (by simp) _).setOther (by simp) _).low (by omega)
  · exact kW.trans ((((t2.out.2.mono (by omega)).setCell (by simp) _).setCell (by simp) _).setCell (by simp) _)

set_option maxRecDepth 100000 in
set_option maxHeartbeats 4000000 in
theorem copyOfG_c (z : Gm) (a0 a1 a2 : Option Addr) (n0 n1 n2 c0 c1 c2 : Nat) (w : World) (h0 : IsSl w (.slice a0 n0 c0) 5 Rq.cs z.es) (h1 : IsSl w (.slice a1 n1 c1) 1 intR z.fl) (h2 : IsSl w (.slice a2 n2 c2) 1 intR z.la) (hs0 : n0 ≤ 16777216) (hs1 : n1 ≤ 16777216) (hs2 : n2 ≤ 16777216) :
    Calls Try.prog 82 #[.agg #[.slice a0 n0 c0, .slice a1 n1 c1, .slice a2 n2 c2]] w fun e w' => ∃ b0 b1 b2, e = .returned (.agg #[.slice b0 n0 n0, .slice b1 n1 n1, .slice b2 n2 n2]) ∧ Row w' w.heap.size 92 b0 n0 5 Rq.cs z.es ∧ Row w' w.heap.size 3 b1 n1 1 intR z.fl ∧ Row w' w.heap.size 3 b2 n2 1 intR z.la ∧
      (∀ g, rowBlk b0 n0 = some g → rowBlk b1 n1 ≠ some g) ∧ (∀ g, rowBlk b0 n0 = some g → rowBlk b2 n2 ≠ some g) ∧ (∀ g, rowBlk b1 n1 = some g → rowBlk b2 n2 ≠ some g) ∧ Below w.heap.size w w' := by
  have H0 := Lib.hid h0
  have H1 := Lib.hid h1
  have H2 := Lib.hid h2
  clear h0 h1 h2
  go_enter Try.func82, Try.ntmps82
  go_wp2_with fail
  obtain ⟨W, hW, sW, aW, bW, kW⟩ := blocks2 w (.cells #[.slice a0 n0 c0, .slice a1 n1 c1, .slice a2 n2 c2] 46) (.cells #[.slice none 0 0, .slice none 0 0, .slice none 0 0] 46)
  rw [← hW]
  clear hW
  have hcA := cell_of_block aW
  have HB := Lib.hid bW
  clear bW
  refine wp_region_held_drew (S := fun w' => ((∀ b o, b < w.heap.size + 1 → (w').cell? ⟨b, o, none⟩ = (W).cell? ⟨b, o, none⟩) ∧ Below (w.heap.size + 1) (W) (w'))) (by kernel_rfl) (KeptB.drew (KeptB.refl _ _)) (fun hHeld => ?_)
  refine wpAnyH_take (i := 0) (oi := _) (v := ?_) (by (simp only [List.getElem?_toArray]; rfl)) (by kernel_rfl) (by kernel_rfl) (by kernel_rfl) (by exact fun _ _ _ h => h) (Or.inl ⟨by rfl, ?_⟩) (by assumption) ?_
  rotate_left
  · intro wS hSw
    go_simp
    all_goals first | with_reducible rfl | rw [if_neg (by omega)]
  simp only [Act.put, List.setIfInBounds_toArray, List.set]
  refine wpAnyH_take (i := 1) (oi := _) (v := ?_) (by (simp only [List.getElem?_toArray]; rfl)) (by kernel_rfl) (by kernel_rfl) (by kernel_rfl) (by exact fun _ _ _ h => h) (Or.inl ⟨by rfl, ?_⟩) (by assumption) ?_
  rotate_left
  · intro wS hSw
    go_simp
    all_goals first | with_reducible rfl | rw [if_neg (by omega)]
  simp only [Act.put, List.setIfInBounds_toArray, List.set]
  refine wpAnyH_take (i := 3) (oi := _) (v := ?_) (by (simp only [List.getElem?_toArray]; rfl)) (by kernel_rfl) (by kernel_rfl) (by kernel_rfl) (by exact fun _ _ _ h => h) (Or.inl ⟨by rfl, ?_⟩) (by assumption) ?_
  rotate_left
  · intro wS hSw
    go_simp
    all_goals first | with_reducible rfl | rw [if_neg (by omega)]
  simp only [Act.put, List.setIfInBounds_toArray, List.set]
  refine wpAnyH_take (i := 4) (oi := _) (v := ?_) (by (simp only [List.getElem?_toArray]; rfl)) (by kernel_rfl) (by kernel_rfl) (by kernel_rfl) (by exact fun _ _ _ h => h) (Or.inl ⟨by rfl, ?_⟩) (by assumption) ?_
  rotate_left
  · intro wS hSw
    go_simp
    all_goals first | with_reducible rfl | rw [if_neg (by omega)]
  simp only [Act.put, List.setIfInBounds_toArray, List.set]
  refine wpAnyH_take (i := 6) (oi := _) (v := ?_) (by (simp only [List.getElem?_toArray]; rfl)) (by kernel_rfl) (by kernel_rfl) (by kernel_rfl) (by exact fun _ _ _ h => h) (Or.inl ⟨by rfl, ?_⟩) (by assumption) ?_
  rotate_left
  · intro wS hSw
    go_simp
    all_goals first | with_reducible rfl | rw [if_neg (by omega)]
  simp only [Act.put, List.setIfInBounds_toArray, List.set]
  refine wpAnyH_take (i := 7) (oi := _) (v := ?_) (by (simp only [List.getElem?_toArray]; rfl)) (by kernel_rfl) (by kernel_rfl) (by kernel_rfl) (by exact fun _ _ _ h => h) (Or.inl ⟨by rfl, ?_⟩) (by assumption) ?_
  rotate_left
  · intro wS hSw
    go_simp
    all_goals first | with_reducible rfl | rw [if_neg (by omega)]
  simp only [Act.put, List.setIfInBounds_toArray, List.set]
  clear aW hcA hHeld
  have k := Lib.hid (KeptB.drew (KeptB.refl W.heap.size W))
  refine wpAnyH_ready (rs := [2]) (by kernel_rfl) (by simp) ?_
  refine AllReadyH.cons (o := _) (by (simp only [List.getElem?_toArray]; rfl)) (fun K hK => ?_) AllReadyH.nil
  go_simp
  refine (cloneEnt_c a0 n0 c0 z.es _ (H0.out.below (kW.trans (k.out.2.mono (by omega)))) hs0).mono ?_
  rintro e w1 ⟨b0, rfl, r0, k1⟩
  have t1 := Lib.hid (KeptB.next (Nat.le_refl _) k.out k1)
  have R0 := Lib.hid r0
  clear k1 r0
  refine hK.out _ _ (KeptB.weak t1.out (by omega)) (fun hHeld => ?_)
  clear hK K
  try simp only [Act.put, List.setIfInBounds_toArray, List.set]
  clear hHeld
  refine wpAnyH_ready (rs := [5]) (by kernel_rfl) (by simp) ?_
  refine AllReadyH.cons (o := _) (by (simp only [List.getElem?_toArray]; rfl)) (fun K hK => ?_) AllReadyH.nil
  go_simp
  refine (cloneint_c a1 n1 c1 z.fl _ (H1.out.below (kW.trans (t1.out.2.mono (by omega)))) hs1).mono ?_
  rintro e w2 ⟨b1, rfl, r1, k2⟩
  have t2 := Lib.hid (KeptB.next (Nat.le_refl _) t1.out k2)
  have p01 := r1.apart R0.out (Nat.le_refl _)
  have R02 := Lib.hid (R0.out.below k2)
  have R1 := Lib.hid r1
  clear k2 r1
  refine hK.out _ _ (KeptB.weak t2.out (by omega)) (fun hHeld => ?_)
  clear hK K
  try simp only [Act.put, List.setIfInBounds_toArray, List.set]
  clear hHeld
  refine wpAnyH_ready (rs := [8]) (by kernel_rfl) (by simp) ?_
  refine AllReadyH.cons (o := _) (by (simp only [List.getElem?_toArray]; rfl)) (fun K hK => ?_) AllReadyH.nil
  go_simp
  refine (cloneint_c a2 n2 c2 z.la _ (H2.out.below (kW.trans (t2.out.2.mono (by omega)))) hs2).mono ?_
  rintro e w3 ⟨b2, rfl, r2, k3⟩
  have t3 := Lib.hid (KeptB.next (Nat.le_refl _) t2.out k3)
  have p02 := r2.apart R02.out (Nat.le_refl _)
  have p12 := r2.apart R1.out (Nat.le_refl _)
  have R03 := Lib.hid (R02.out.below k3)
  have R13 := Lib.hid ((R1.out.below k3).low (Nat.le_trans (show w.heap.size + 2 ≤ W.heap.size by omega) t1.out.2.size))
  have R23 := Lib.hid (r2.low (Nat.le_trans (show w.heap.size + 2 ≤ W.heap.size by omega) t2.out.2.size))
  clear k3 r2
  have kS := KeptB.weak t3.out (show w.heap.size + 1 ≤ W.heap.size by omega)
  have cz := fun i => (t3.out.1 (w.heap.size + 1) i (by omega)).trans (cell_of_block HB.out i)
  have fz : ∀ i, w3.frozen? ⟨w.heap.size + 1, i, none⟩ = false := fun i => (t3.out.2.frozen (p := ⟨w.heap.size + 1, i, none⟩) (by simp <;> omega)).trans (unfrozen_of_block HB.out i)
  refine hK.out _ _ kS (fun hHeld => ?_)
  clear hK K
  try simp only [Act.put, List.setIfInBounds_toArray, List.set]
  refine wpAnyH_take (i := 9) (oi := _) (v := ?_) (by (simp only [List.getElem?_toArray]; rfl)) (by kernel_rfl) (by kernel_rfl) (by kernel_rfl) (by exact fun _ _ _ h => h) (Or.inl ⟨by rfl, ?_⟩) (by assumption) ?_
  rotate_left
  · intro wS hSw
    go_simp
    all_goals first | with_reducible rfl | rw [if_neg (by omega)]
  simp only [Act.put, List.setIfInBounds_toArray, List.set]
  refine wpAnyH_ready (rs := [10]) (by kernel_rfl) (by simp) ?_
  refine AllReadyH.cons (o := _) (by (simp only [List.getElem?_toArray]; rfl)) (fun K hK => ?_) AllReadyH.nil
  go_simp
  refine hK.out _ _ (KeptB.set (by simp) _ (KeptB.set (by simp) _ (KeptB.set (by simp) _ kS))) (fun hHeld => ?_)
  clear hK K
  try simp only [Act.put, List.setIfInBounds_toArray, List.set]
  refine wpAnyH_done (by kernel_rfl) ?_ _
  go_wp2_with fail
  refine bodyPost_ret (v := .agg #[.slice b0 n0 n0, .slice b1 n1 n1, .slice b2 n2 n2]) (by simp [results, Try.results82, go_sem, cz]) rfl ?_
  have sk := k.out.2.size
  refine ⟨b0, b1, b2, rfl, ?_, ?_, ?_, p01, p02, p12, ?_⟩
  · exact (((((R03.out.low (Nat.le_trans (show w.heap.size + 2 ≤ W.heap.size by omega) sk)).setOther (by simp) _).setOther (by simp) _).setOther (by simp) _)).low (by omega)
  · exact (((R13.out.setOther (by simp) _).setOther (by simp) _).setOther (by simp) _).low (by omega)
  · exact (((R23.out.setOther (by simp) _).setOther (by simp) _).setOther (by simp) _).low (by omega)
  · exact kW.trans ((((t3.out.2.mono (by omega)).setCell (by simp) _).setCell (by simp) _).setCell (by simp) _)
end Go.Proofs.Ytofedboeggdkaaa
