/- Small lemmas on worlds that this seat's texts share; no condition. | The arguments of the laws opened: integers, strings, bytes, requests; no condition. | New blocks under names of their own: the world behind one to four allocations; blocks carried over calls; no condition. | Slices whose elements are rows of cells: what is known of one that came in, of one in a block of its own; the arguments that hold such slices opened; no condition. | Elements of slices read at their places; no condition. | Slices that the program made itself: their rows kept, cut, appended to, stored into; condition: small sizes. | Contracts of the functions on requests (in, ReqOk and their kin); no condition. | Contracts of the functions that copy a law's slices (toIntS, toEntS, toReqS), that weigh and that compare them; condition: at most 2^20 elements. | Contracts of toReqS and toEntS, that copy slices of structs of five integers; condition: at most 2^20 elements. | Contracts of the functions that weigh (szXS) and compare (eqXS) slices of integers and of structs of five; eqXS: of two that are alike; no condition. | The checksum as a function on lists of bytes, and that one turned byte turns it: plain arithmetic, no program; no condition. | '==' and '!=' between two requests, as one test; no condition. | Contracts of l1Dec (decimals), l1Words, l1None, l1Put and the reference's ReqPut; condition: 64-bit numbers. | Contracts of l1Words, l1Put and the reference's ReqPut; condition: 64-bit numbers. | Contracts of okOrNull and allOk, with slices.ContainsFunc and IndexFunc at their closure; no condition. | Contracts of l1None and of the reference's ReqPut; condition: 64-bit numbers far from the ends. | When a game is ok, as a plain function; no program; no condition. | Texts cut at a byte and glued again; numerals read back; no program; no condition. | What is read of a text as an ask, as a relation; no program; no condition. | Rows of texts: appends of one; no program's contract; no condition. | Rows of a ledger (six integers each): slices of them copied, weighed, compared; condition: at most 2^20 elements. | Contracts of Crc and of its reference: both give crcOf; condition: the text is shorter than 2^62 bytes. | Ledgers, plainly: the sum of a row, how many rows are right, how many two lists share, how rows are written; no condition. | Regions that draw their order and whose callees lay blocks: contracts and blocks over every world of the class; no condition. -/
import Derived.Test.YtilldpoleiippaaDoorRows
import Derived.WalkKit
import Derived.WalkSpells
import Derived.WalkLawsBesides
import Derived.Lib.Hide
import Derived.Deep.RegionHeld3
import Derived.Deep.DeepCutAuto
import Derived.Outline
import Derived.ProofKit
import Derived.OpenShut
import Derived.ShutString
import Derived.Lib.SmallJoins
import Derived.Deep.Slices
import Derived.Deep.Fields
import Derived.Deep.AppendSrc
import Derived.Laws.AppendOwn
import Derived.OwnWalk
import Derived.LoopTactic
import Derived.Lib.ItoaNum
import Derived.Lib.ItoaLen
import Derived.Laws.BytesArg
import Derived.Lib.SplitLaws
import Derived.Lib.AtoiOr
import Derived.Lib.AtoiAll
import Derived.Lib.SlicesS
import Derived.Lib.QuietBelow
import Derived.BigQuiet
set_option linter.unusedSimpArgs false
set_option linter.unusedVariables false
/-! Small lemmas on worlds that this seat's texts share; no condition. -/
namespace Go.Proofs.YtilldpoleiippaaDoor
open Go.RowKit

theorem ret_bool {a b : Bool} (h : a = b) : Ending.returned (.bool a) = .returned (.bool b) := by rw [h]
theorem ret_int {k : IntKind} {a b : Int} (h : a = b) : Ending.returned (.int k a) = .returned (.int k b) := by rw [h]

/-- Old cells and old marks read as before. -/
theorem bcell {W w1 : World} (hb : Below W.heap.size W w1) : (∀ b o, b < W.heap.size → w1.cell? ⟨b, o, none⟩ = W.cell? ⟨b, o, none⟩) ∧ (∀ b o, b < W.heap.size → w1.frozen? ⟨b, o, none⟩ = W.frozen? ⟨b, o, none⟩) :=
  ⟨fun b o h => hb.cell (p := ⟨b, o, none⟩) h, fun b o h => hb.frozen (p := ⟨b, o, none⟩) h⟩

/-- From one call to the next. -/
theorem below_next {a b c : World} (h : Below a.heap.size a b) (k : Below b.heap.size b c) : Below a.heap.size a c := h.trans (k.mono h.size)

theorem below_drewN {B : Nat} {a w : World} (h : Below B a w) (n : Nat) : Below B a (w.drewN n) := ⟨h.os, h.tape, h.output, h.size, h.block⟩

/-! What go_region_held3 is told: below B the world is as W was. -/
theorem Kept.start {B : Nat} (W : World) : (∀ b o, b < B → W.drew.cell? ⟨b, o, none⟩ = W.cell? ⟨b, o, none⟩) ∧ Below W.heap.size W W.drew := ⟨fun _ _ _ => rfl, Below.drew (Below.refl _ _)⟩
theorem Kept.refl {B : Nat} (W : World) : (∀ b o, b < B → W.cell? ⟨b, o, none⟩ = W.cell? ⟨b, o, none⟩) ∧ Below W.heap.size W W := ⟨fun _ _ _ => rfl, Below.refl _ _⟩
theorem Kept.drew {B : Nat} {W w1 : World} (h : (∀ b o, b < B → w1.cell? ⟨b, o, none⟩ = W.cell? ⟨b, o, none⟩) ∧ Below W.heap.size W w1) :
    (∀ b o, b < B → w1.drew.cell? ⟨b, o, none⟩ = W.cell? ⟨b, o, none⟩) ∧ Below W.heap.size W w1.drew := ⟨h.1, h.2.drew⟩
theorem Kept.next {B : Nat} {W w1 w2 : World} (hB : B ≤ W.heap.size) (h : (∀ b o, b < B → w1.cell? ⟨b, o, none⟩ = W.cell? ⟨b, o, none⟩) ∧ Below W.heap.size W w1) (k : Below w1.heap.size w1 w2) :
    (∀ b o, b < B → w2.cell? ⟨b, o, none⟩ = W.cell? ⟨b, o, none⟩) ∧ Below W.heap.size W w2 :=
  ⟨fun b o hb => (k.cell (p := ⟨b, o, none⟩) (Nat.lt_of_lt_of_le hb (Nat.le_trans hB h.2.size))).trans (h.1 b o hb), below_next h.2 k⟩
theorem Kept.alloc {B : Nat} {W w1 : World} (hB : B ≤ W.heap.size) (x : Obj) (h : (∀ b o, b < B → w1.cell? ⟨b, o, none⟩ = W.cell? ⟨b, o, none⟩) ∧ Below W.heap.size W w1) :
    (∀ b o, b < B → (w1.alloc x).cell? ⟨b, o, none⟩ = W.cell? ⟨b, o, none⟩) ∧ Below W.heap.size W (w1.alloc x) :=
  Kept.next hB h ((Below.refl _ _).alloc (Nat.le_refl _) x)

/-! A request: five numbers. -/
structure Rq where
  c : Int
  n : Int
  o : Int
  x : Int
  y : Int
deriving DecidableEq

def Rq.v (r : Rq) : Value := .agg #[.int .i64 r.c, .int .i64 r.n, .int .i64 r.o, .int .i64 r.x, .int .i64 r.y]
def Rq.cs (r : Rq) : List Value := [.int .i64 r.c, .int .i64 r.n, .int .i64 r.o, .int .i64 r.x, .int .i64 r.y]

/-- lo ≤ n ≤ hi -/
def inB (n lo hi : Int) : Bool := decide (lo ≤ n) && decide (n ≤ hi)
theorem inB_iff (n lo hi : Int) : inB n lo hi = true ↔ lo ≤ n ∧ n ≤ hi := by simp [inB]
theorem inB_not (n lo hi : Int) : inB n lo hi = false ↔ n < lo ∨ hi < n := by
  rw [← Bool.not_eq_true, inB_iff]; omega

/-- A valid request. -/
def okB (c n o x y : Int) : Bool :=
  inB c 1 4 && inB n 1 30 &&
    (if o = 1 ∨ o = 3 then x == 0 && y == 0
     else if o = 2 then inB x (-1) 1 && inB y (-1) 1
     else if o = 4 then inB x 1 4 && y == 0
     else if o = 5 then inB x 1 4 && inB y 1 9
     else false)
end Go.Proofs.YtilldpoleiippaaDoor

/-! The arguments of the laws opened: integers, strings, bytes, requests; no condition. -/
namespace Go.Proofs.YtilldpoleiippaaDoor
open Go.WideShapes Go.ChangeAt Go.RowKit Go.Deep

/-- Five numbers in five cells. -/
def IsRq (v : Value) (r : Rq) : Prop := v = .agg #[.int .i64 r.c, .int .i64 r.n, .int .i64 r.o, .int .i64 r.x, .int .i64 r.y]

/-- Bytes that came in. -/
structure Bts where
  a : Option Addr
  len : Nat
  cap : Nat
def IsBytes (w : World) (v : Value) (z : Bts) : Prop :=
  v = .slice z.a z.len z.cap ∧ z.len ≤ z.cap ∧ z.cap ≤ maxLen ∧
    ∀ i, i < z.len → ∃ (b off : Nat) (x : Int), z.a = some ⟨b, off, none⟩ ∧ b < w.heap.size ∧ 0 ≤ x ∧ x ≤ 255 ∧ w.cell? ⟨b, off + i, none⟩ = some (.int .u8 x)

section
variable {H : Type} {P : Program} {enc : TypeId × Value → H} {w : World} {base b0 : Nat} {spare : Nat → Bool} {held : Bool} {r : Reach} {v : Value} {d : DataW H} {p : List MemPlace}

set_option maxRecDepth 100000 in
theorem open_string (hv : Value.okWide Tryd.prog w r b0 9 v) (h : DataW.Trod enc Tryd.prog w base spare held 9 v d p) : ∃ s : ByteArray, v = .string s := by
  obtain ⟨s, e, _⟩ := Go.ChangeMaps.open_string Tryd.underlying9 hv h
  exact ⟨s, e⟩
set_option maxRecDepth 100000 in
theorem open_int (hv : Value.okWide Tryd.prog w r b0 3 v) (h : DataW.Trod enc Tryd.prog w base spare held 3 v d p) : ∃ n : Int, v = .int .i64 n := by
  obtain ⟨n, e, _⟩ := Go.ChangeShapes.open_int Tryd.underlying3 hv h
  exact ⟨n, e⟩

theorem byte_wf {x : Int} (h : (Lit.int .u8 x).wf = true) : 0 ≤ x ∧ x ≤ 255 := by
  simp [Lit.wf, IntKind.min, IntKind.max, IntKind.signed, IntKind.bits] at h
  omega

theorem bytes_of {t e : TypeId} (ht : P.underlying t = some (.slice e)) (he : P.underlying e = some (.int .u8)) (hC : P.cellsOf e = 1)
    (hv : Value.okWide P w r b0 t v) (h : DataW.Trod enc P w base spare held t v d p) : ∃ z : Bts, IsBytes w v z := by
  obtain ⟨a, len, cap, rfl⟩ := okWide_slice ht hv
  obtain ⟨fuel, hf⟩ := h
  rcases Go.ChangeShapes.open_ints ht he hC hf with ⟨hcs, _⟩ | ⟨x, l, c, zs, hcs, _, hl, hm, hz, _, hcell, hwz⟩
  · simp [Value.cells] at hcs
    obtain ⟨rfl, rfl, rfl⟩ := hcs
    exact ⟨⟨none, 0, 0⟩, rfl, Nat.le_refl _, by simp [maxLen], fun i hi => absurd hi (Nat.not_lt_zero i)⟩
  · simp [Value.cells] at hcs
    obtain ⟨rfl, rfl, rfl⟩ := hcs
    refine ⟨⟨some x, len, cap⟩, rfl, hl, hm, fun i hi => ?_⟩
    have hlz : len ≤ zs.length := by rw [hz]; split <;> simp_all
    have hi : i < len := hi
    obtain ⟨b, off, rfl, hc⟩ := ints_at hcell (by omega)
    have hci := hc i (Nat.lt_of_lt_of_le hi hlz)
    refine ⟨b, off, zs.getD i 0, rfl, World.block_lt_of_cell? w _ hci, ?_, ?_, hci⟩
    · have hm : zs.getD i 0 ∈ zs := by
        rw [List.getD_eq_getElem?_getD, List.getElem?_eq_getElem (Nat.lt_of_lt_of_le hi hlz)]; simp
      exact (byte_wf (hwz _ hm)).1
    · have hm : zs.getD i 0 ∈ zs := by
        rw [List.getD_eq_getElem?_getD, List.getElem?_eq_getElem (Nat.lt_of_lt_of_le hi hlz)]; simp
      exact (byte_wf (hwz _ hm)).2

set_option maxRecDepth 100000 in
theorem open_bytes (hv : Value.okWide Tryd.prog w r b0 28 v) (h : DataW.Trod enc Tryd.prog w base spare held 28 v d p) : ∃ z : Bts, IsBytes w v z :=
  bytes_of Tryd.underlying28 Tryd.underlying5 (by kernel_rfl) hv h

theorem five_ints {t : TypeId} {cs : List Value} {fuel : Nat} {x : DataW H × List MemPlace} {f0 f1 f2 f3 f4 : Field}
    (hs : P.underlying t = some (.struct #[f0, f1, f2, f3, f4])) (hone : oneCellFields P #[f0, f1, f2, f3, f4] = true)
    (e0 : P.underlying f0.type = some (.int .i64)) (e1 : P.underlying f1.type = some (.int .i64)) (e2 : P.underlying f2.type = some (.int .i64)) (e3 : P.underlying f3.type = some (.int .i64)) (e4 : P.underlying f4.type = some (.int .i64))
    (hC : P.cellsOf t = 5) (h : DataW.trod enc P w base spare held fuel t cs = some x) :
    ∃ z : Rq, cs = z.cs := by
  obtain ⟨xs, n, _, _, hlc, hlen, hg⟩ := DataW.trod_struct hs h
  rw [hC] at hlc
  match cs, hlc with
  | [c0, c1, c2, c3, c4], _ =>
    obtain ⟨o0, k0⟩ := hone_of hone 0 f0 rfl
    obtain ⟨o1, k1⟩ := hone_of hone 1 f1 rfl
    obtain ⟨o2, k2⟩ := hone_of hone 2 f2 rfl
    obtain ⟨o3, k3⟩ := hone_of hone 3 f3 rfl
    obtain ⟨o4, k4⟩ := hone_of hone 4 f4 rfl
    match xs, hlen with
    | [y0, y1, y2, y3, y4], _ =>
      have g0 := hg 0 f0 rfl
      have g1 := hg 1 f1 rfl
      have g2 := hg 2 f2 rfl
      have g3 := hg 3 f3 rfl
      have g4 := hg 4 f4 rfl
      rw [o0, k0] at g0
      rw [o1, k1] at g1
      rw [o2, k2] at g2
      rw [o3, k3] at g3
      rw [o4, k4] at g4
      obtain ⟨a0, q0, _, _⟩ := DataW.trod_int e0 g0
      obtain ⟨a1, q1, _, _⟩ := DataW.trod_int e1 g1
      obtain ⟨a2, q2, _, _⟩ := DataW.trod_int e2 g2
      obtain ⟨a3, q3, _, _⟩ := DataW.trod_int e3 g3
      obtain ⟨a4, q4, _, _⟩ := DataW.trod_int e4 g4
      simp at q0 q1 q2 q3 q4
      subst q0 q1 q2 q3 q4
      exact ⟨⟨a0, a1, a2, a3, a4⟩, rfl⟩

end
end Go.Proofs.YtilldpoleiippaaDoor

/-! New blocks under names of their own: the world behind one to four allocations; blocks carried over calls; no condition. -/
namespace Go.Proofs.YtilldpoleiippaaDoor
open Go.RowKit Go.Joins

theorem blocks1 (w : World) (A : Obj) : ∃ W, W = w.alloc A ∧ W.heap.size = w.heap.size + 1 ∧ W.heap[w.heap.size]? = some A ∧ Below w.heap.size w W :=
  ⟨_, rfl, by simp, heap_alloc_new w A, (Below.refl _ _).alloc (Nat.le_refl _) _⟩
theorem blocks2 (w : World) (A B : Obj) : ∃ W, W = (w.alloc A).alloc B ∧ W.heap.size = w.heap.size + 2 ∧ W.heap[w.heap.size]? = some A ∧ W.heap[w.heap.size + 1]? = some B ∧ Below w.heap.size w W := by
  obtain ⟨W1, h1, s1, a1, k1⟩ := blocks1 w A
  obtain ⟨W2, h2, s2, a2, k2⟩ := blocks1 W1 B
  refine ⟨W2, by rw [h2, h1], by omega, ?_, by rw [← s1]; exact a2, k1.trans (k2.mono (by omega))⟩
  rw [k2.block _ (by omega)]; exact a1
theorem blocks3 (w : World) (A B C : Obj) : ∃ W, W = ((w.alloc A).alloc B).alloc C ∧ W.heap.size = w.heap.size + 3 ∧ W.heap[w.heap.size]? = some A ∧ W.heap[w.heap.size + 1]? = some B ∧ W.heap[w.heap.size + 2]? = some C ∧ Below w.heap.size w W := by
  obtain ⟨W1, h1, s1, a1, b1, k1⟩ := blocks2 w A B
  obtain ⟨W2, h2, s2, a2, k2⟩ := blocks1 W1 C
  refine ⟨W2, by rw [h2, h1], by omega, ?_, ?_, by rw [← s1]; exact a2, k1.trans (k2.mono (by omega))⟩
  · rw [k2.block _ (by omega)]; exact a1
  · rw [k2.block _ (by omega)]; exact b1
theorem blocks4 (w : World) (A B C D : Obj) : ∃ W, W = (((w.alloc A).alloc B).alloc C).alloc D ∧ W.heap.size = w.heap.size + 4 ∧ W.heap[w.heap.size]? = some A ∧ W.heap[w.heap.size + 1]? = some B ∧ W.heap[w.heap.size + 2]? = some C ∧ W.heap[w.heap.size + 3]? = some D ∧ Below w.heap.size w W := by
  obtain ⟨W1, h1, s1, a1, b1, c1, k1⟩ := blocks3 w A B C
  obtain ⟨W2, h2, s2, a2, k2⟩ := blocks1 W1 D
  refine ⟨W2, by rw [h2, h1], by omega, ?_, ?_, ?_, by rw [← s1]; exact a2, k1.trans (k2.mono (by omega))⟩
  · rw [k2.block _ (by omega)]; exact a1
  · rw [k2.block _ (by omega)]; exact b1
  · rw [k2.block _ (by omega)]; exact c1

/-- A block that was there is there still. -/
theorem carryB {W w1 : World} {B b : Nat} {o : Obj} (k : Below B W w1) (hb : b < B) (h : W.heap[b]? = some o) : w1.heap[b]? = some o := (k.block b hb).trans h

theorem IsBytes.below {w w' : World} {v : Value} {z : Bts} (h : IsBytes w v z) (k : Below w.heap.size w w') : IsBytes w' v z := by
  obtain ⟨h1, h2, h3, h4⟩ := h
  refine ⟨h1, h2, h3, fun i hi => ?_⟩
  obtain ⟨b, off, x, q1, q2, q3, q4, q5⟩ := h4 i hi
  exact ⟨b, off, x, q1, Nat.lt_of_lt_of_le q2 k.size, q3, q4, by rw [k.cell (p := ⟨b, off + i, none⟩) q2]; exact q5⟩
end Go.Proofs.YtilldpoleiippaaDoor

/-! Slices whose elements are rows of cells: what is known of one that came in, of one in a block of its own; the arguments that hold such slices opened; no condition. -/
namespace Go.Proofs.YtilldpoleiippaaDoor
open Go.WideShapes Go.ChangeAt Go.RowKit Go.Deep Go.Joins

/-- The element number i lies at its place, cell by cell. -/
def RowsAt {α : Type} (w : World) (a : Option Addr) (k : Nat) (R : α → List Value) (zs : List α) : Prop :=
  ∀ i (h : i < zs.length), ∃ b off, a = some ⟨b, off, none⟩ ∧ b < w.heap.size ∧ ∀ j, j < k → w.cell? ⟨b, off + i * k + j, none⟩ = (R zs[i])[j]?
/-- A slice of such elements. -/
def IsSl {α : Type} (w : World) (v : Value) (k : Nat) (R : α → List Value) (zs : List α) : Prop :=
  ∃ a cap, v = .slice a zs.length cap ∧ zs.length ≤ cap ∧ cap ≤ maxLen ∧ RowsAt w a k R zs
/-- The row of an integer. -/
def intR (n : Int) : List Value := [.int .i64 n]
/-- A block with the elements' cells, one behind the other. -/
def flat {α : Type} (R : α → List Value) (zs : List α) : Array Value := (zs.flatMap R).toArray

theorem RowsAt.below {α : Type} {w w' : World} {a : Option Addr} {k : Nat} {R : α → List Value} {zs : List α} (h : RowsAt w a k R zs) (hb : Below w.heap.size w w') : RowsAt w' a k R zs := by
  intro i hi
  obtain ⟨b, off, e, hlt, hc⟩ := h i hi
  exact ⟨b, off, e, Nat.lt_of_lt_of_le hlt hb.size, fun j hj => (hb.cell (p := ⟨b, _, none⟩) hlt).trans (hc j hj)⟩
theorem IsSl.below {α : Type} {w w' : World} {v : Value} {k : Nat} {R : α → List Value} {zs : List α} (h : IsSl w v k R zs) (hb : Below w.heap.size w w') : IsSl w' v k R zs := by
  obtain ⟨a, cap, e, h1, h2, h3⟩ := h
  exact ⟨a, cap, e, h1, h2, h3.below hb⟩

theorem flat_get {α : Type} {R : α → List Value} {k : Nat} (hR : ∀ z, (R z).length = k) : ∀ (zs : List α) (i : Nat) (h : i < zs.length) (j : Nat), j < k → (flat R zs)[i * k + j]? = (R zs[i])[j]? := by
  intro zs
  induction zs with
  | nil => intro i h; cases h
  | cons z zs ih =>
    intro i h j hj
    cases i with
    | zero =>
      simp only [flat, List.flatMap_cons, Nat.zero_mul, Nat.zero_add, List.getElem_cons_zero]
      rw [List.getElem?_toArray, List.getElem?_append_left (by rw [hR]; exact hj)]
    | succ i =>
      have := ih i (by simpa using h) j hj
      simp only [flat, List.flatMap_cons, List.getElem_cons_succ] at this ⊢
      rw [List.getElem?_toArray] at this ⊢
      rw [List.getElem?_append_right (by rw [hR, Nat.succ_mul]; omega), hR, ← this]
      congr 1
      rw [Nat.succ_mul]; omega
theorem flat_size {α : Type} {R : α → List Value} {k : Nat} (hR : ∀ z, (R z).length = k) (zs : List α) : (flat R zs).size = zs.length * k := by
  induction zs with
  | nil => simp [flat]
  | cons z zs ih =>
    simp only [flat, List.flatMap_cons, List.size_toArray, List.length_append, hR, List.length_cons] at ih ⊢
    rw [ih, Nat.succ_mul]; omega

/-- A block of its own is such a slice. -/
theorem rows_of_block {α : Type} {w : World} {B : Nat} {R : α → List Value} {k : Nat} {zs : List α} {t : TypeId} {fr : Nat × Nat} (hR : ∀ z, (R z).length = k) (h : w.heap[B]? = some (.cells (flat R zs) t fr)) :
    RowsAt w (some ⟨B, 0, none⟩) k R zs := by
  intro i hi
  refine ⟨B, 0, rfl, lt_of_block h, fun j hj => ?_⟩
  rw [cell_of_block h, Nat.zero_add]
  exact flat_get hR zs i hi j hj

section
variable {H : Type} {P : Program} {enc : TypeId × Value → H} {w : World} {base b0 : Nat} {spare : Nat → Bool} {held : Bool} {r : Reach} {v : Value} {d : DataW H} {p : List MemPlace}

theorem choose_list {α : Type} {n : Nat} {Q : Nat → α → Prop} (h : ∀ i, i < n → ∃ z, Q i z) : ∃ zs : List α, zs.length = n ∧ ∀ i (hi : i < zs.length), Q i zs[i] := by
  induction n with
  | zero => exact ⟨[], rfl, fun i hi => absurd hi (Nat.not_lt_zero i)⟩
  | succ n ih =>
    obtain ⟨zs, hl, hz⟩ := ih (fun i hi => h i (by omega))
    obtain ⟨z, hq⟩ := h n (by omega)
    refine ⟨zs ++ [z], by simp [hl], fun i hi => ?_⟩
    by_cases hin : i < zs.length
    · rw [List.getElem_append_left hin]; exact hz i hin
    · have : i = zs.length := by simp at hi; omega
      subst this
      simpa [hl] using hq

/-- A slice that came in, opened: its elements, each read by 'hel'. -/
theorem open_rows {α : Type} {t e : TypeId} {R : α → List Value} {k fuel : Nat} {c : Value} {x : DataW H × List MemPlace} (ht : P.underlying t = some (.slice e)) (hC : P.cellsOf e = k) (hk : 0 < k)
    (hel : ∀ n cs y, DataW.trod enc P w base spare held n e cs = some y → ∃ z : α, cs = R z) (h : DataW.trod enc P w base spare held fuel t [c] = some x) : ∃ zs : List α, IsSl w c k R zs := by
  rcases open_slice ht h with ⟨hcs, _⟩ | ⟨a, len, cap, m, n, D, Pl, hcs, _, hl, hm, hmm, _, hi⟩
  · simp at hcs
    subst hcs
    exact ⟨[], none, 0, rfl, Nat.le_refl _, by simp [maxLen], fun i hi => absurd hi (Nat.not_lt_zero i)⟩
  · simp at hcs
    subst hcs
    have hlm : len ≤ m := by rw [hmm]; split <;> omega
    obtain ⟨zs, hzl, hz⟩ := choose_list (α := α) (n := len) (Q := fun i z => w.cells? base (a.add (i * k)) k = some (R z)) (fun i hil => by
      obtain ⟨cs', hc, ht'⟩ := hi i (by omega)
      rw [hC] at hc
      obtain ⟨z, hz⟩ := hel _ _ _ ht'
      exact ⟨z, by rw [hc, hz]⟩)
    subst hzl
    refine ⟨zs, some a, cap, rfl, hl, hm, fun i hil => ?_⟩
    obtain ⟨_, hcl, hat⟩ := World.cells?_some (hz i hil)
    obtain ⟨b, off, spot⟩ := a
    have hspot : spot = none := by
      obtain ⟨_, hcl0, hat0⟩ := World.cells?_some (hz 0 (by omega))
      have h0 := hat0 0 hk
      rw [List.getElem?_eq_getElem (by omega)] at h0
      simpa [Addr.add] using World.cell?_spot h0
    subst hspot
    have hat' : ∀ j, j < k → w.cell? ⟨b, off + i * k + j, none⟩ = (R zs[i])[j]? := fun j hj => by
      have := hat j hj
      rwa [Go.WideShapes.add_plain, Go.WideShapes.add_plain] at this
    refine ⟨b, off, rfl, ?_, hat'⟩
    have h1 := hat' 0 hk
    rw [List.getElem?_eq_getElem (by omega)] at h1
    exact World.block_lt_of_cell? w _ h1

theorem int_el {e : TypeId} (he : P.underlying e = some (.int .i64)) (n : Nat) (cs : List Value) (y : DataW H × List MemPlace) (h : DataW.trod enc P w base spare held n e cs = some y) : ∃ z : Int, cs = intR z := by
  obtain ⟨a, q, _, _⟩ := DataW.trod_int he h
  exact ⟨a, q⟩

/-- A game that came in. -/
structure Gm where
  es : List Rq
  fl : List Int
  la : List Int
def IsGm (w : World) (v : Value) (g : Gm) : Prop := ∃ v0 v1 v2, v = .agg #[v0, v1, v2] ∧ IsSl w v0 5 Rq.cs g.es ∧ IsSl w v1 1 intR g.fl ∧ IsSl w v2 1 intR g.la
/-- A client that is ahead. -/
structure Ah where
  dn : List Rq
  wt : List Rq
  bk : Int
def IsAh (w : World) (v : Value) (g : Ah) : Prop := ∃ v0 v1, v = .agg #[v0, v1, .int .i64 g.bk] ∧ IsSl w v0 5 Rq.cs g.dn ∧ IsSl w v1 5 Rq.cs g.wt

theorem three_fields {t : TypeId} {f0 f1 f2 : Field} (hs : P.underlying t = some (.struct #[f0, f1, f2])) (hone : oneCellFields P #[f0, f1, f2] = true) (hC : P.cellsOf t = 3)
    (hv : Value.okWide P w r b0 t v) (h : DataW.Trod enc P w base spare held t v d p) :
    ∃ (v0 v1 v2 : Value) (y0 y1 y2 : DataW H × List MemPlace) (n : Nat), v = .agg #[v0, v1, v2] ∧ DataW.trod enc P w base spare held n f0.type [v0] = some y0 ∧ DataW.trod enc P w base spare held n f1.type [v1] = some y1 ∧ DataW.trod enc P w base spare held n f2.type [v2] = some y2 := by
  obtain ⟨cs, rfl, hsz⟩ := okWide_struct hs hv
  obtain ⟨l⟩ := cs
  match l, hsz.trans hC with
  | [c0, c1, c2], _ =>
    obtain ⟨fuel, hf⟩ := h
    obtain ⟨xs, n, _, _, _, hlen, hg⟩ := DataW.trod_struct hs hf
    obtain ⟨o0, k0⟩ := hone_of hone 0 f0 rfl
    obtain ⟨o1, k1⟩ := hone_of hone 1 f1 rfl
    obtain ⟨o2, k2⟩ := hone_of hone 2 f2 rfl
    match xs, hlen with
    | [y0, y1, y2], _ =>
      exact ⟨c0, c1, c2, y0, y1, y2, n, rfl, by simpa [Value.cells, o0, k0] using hg 0 f0 rfl, by simpa [Value.cells, o1, k1] using hg 1 f1 rfl, by simpa [Value.cells, o2, k2] using hg 2 f2 rfl⟩

set_option maxRecDepth 100000 in
theorem open_Game (hv : Value.okWide Tryd.prog w r b0 36 v) (h : DataW.Trod enc Tryd.prog w base spare held 36 v d p) : ∃ z : Gm, IsGm w v z := by
  obtain ⟨v0, v1, v2, y0, y1, y2, n, rfl, h0, h1, h2⟩ := three_fields Tryd.underlying36 (by kernel_rfl) (by kernel_rfl) hv h
  obtain ⟨es, he⟩ := open_rows (R := Rq.cs) (k := 5) Tryd.underlying33 (by kernel_rfl) (by decide) (fun n cs y hy => five_ints Tryd.underlying117 (by kernel_rfl) (by kernel_rfl) (by kernel_rfl) (by kernel_rfl) (by kernel_rfl) (by kernel_rfl) (by kernel_rfl) hy) h0
  obtain ⟨fl, hf⟩ := open_rows (R := intR) (k := 1) Tryd.underlying34 (by kernel_rfl) (by decide) (fun n cs y hy => int_el Tryd.underlying3 n cs y hy) h1
  obtain ⟨la, hl⟩ := open_rows (R := intR) (k := 1) Tryd.underlying34 (by kernel_rfl) (by decide) (fun n cs y hy => int_el Tryd.underlying3 n cs y hy) h2
  exact ⟨⟨es, fl, la⟩, v0, v1, v2, rfl, he, hf, hl⟩

end
end Go.Proofs.YtilldpoleiippaaDoor

/-! Elements of slices read at their places; no condition. -/
namespace Go.Proofs.YtilldpoleiippaaDoor
open Go.RowKit Go.Joins

theorem IsSl.bounds {α : Type} {w : World} {a : Option Addr} {n cap k : Nat} {R : α → List Value} {zs : List α} (h : IsSl w (.slice a n cap) k R zs) : zs.length = n ∧ n ≤ cap ∧ cap ≤ maxLen ∧ RowsAt w a k R zs := by
  obtain ⟨_, _, e, hl, hm, hr⟩ := h
  simp only [Value.slice.injEq] at e
  obtain ⟨rfl, rfl, rfl⟩ := e
  exact ⟨rfl, hl, hm, hr⟩
theorem five_at {w : World} {a : Option Addr} {zs : List Rq} (h : RowsAt w a 5 Rq.cs zs) (k : Nat) (hk : k < zs.length) :
    ∃ b off, a = some ⟨b, off, none⟩ ∧ b < w.heap.size ∧ ∀ wr, Below w.heap.size w wr → wr.cell? ⟨b, off + k * 5, none⟩ = some (.int .i64 zs[k].c) ∧ wr.cell? ⟨b, off + k * 5 + 1, none⟩ = some (.int .i64 zs[k].n) ∧
      wr.cell? ⟨b, off + k * 5 + 2, none⟩ = some (.int .i64 zs[k].o) ∧ wr.cell? ⟨b, off + k * 5 + 3, none⟩ = some (.int .i64 zs[k].x) ∧ wr.cell? ⟨b, off + k * 5 + 4, none⟩ = some (.int .i64 zs[k].y) := by
  obtain ⟨b, off, rfl, hb, hc⟩ := h k hk
  refine ⟨b, off, rfl, hb, fun wr hbel => ?_⟩
  have g : ∀ j, j < 5 → wr.cell? ⟨b, off + k * 5 + j, none⟩ = zs[k].cs[j]? := fun j hj => (hbel.cell (p := ⟨b, _, none⟩) hb).trans (hc j hj)
  exact ⟨g 0 (by decide), g 1 (by decide), g 2 (by decide), g 3 (by decide), g 4 (by decide)⟩
theorem one_at {w : World} {a : Option Addr} {zs : List Int} (h : RowsAt w a 1 intR zs) (k : Nat) (hk : k < zs.length) :
    ∃ b off, a = some ⟨b, off, none⟩ ∧ b < w.heap.size ∧ ∀ wr, Below w.heap.size w wr → wr.cell? ⟨b, off + k, none⟩ = some (.int .i64 zs[k]) := by
  obtain ⟨b, off, rfl, hb, hc⟩ := h k hk
  refine ⟨b, off, rfl, hb, fun wr hbel => ?_⟩
  have h := (hbel.cell (p := ⟨b, _, none⟩) hb).trans (hc 0 (by decide))
  rwa [Nat.mul_one, Nat.add_zero] at h
end Go.Proofs.YtilldpoleiippaaDoor

/-! Slices that the program made itself: their rows kept, cut, appended to, stored into; condition: small sizes. -/
namespace Go.Proofs.YtilldpoleiippaaDoor
open Go.RowKit Go.Joins

/-- The block of a slice that has room. -/
def rowBlk (a : Option Addr) (cap : Nat) : Option Nat := if cap = 0 then none else a.map (·.block)
/-- A slice of the program's own, in a block from B on; one without room may lie anywhere. -/
structure Row {α : Type} (w : World) (B : Nat) (e : TypeId) (a : Option Addr) (cap k : Nat) (R : α → List Value) (zs : List α) : Prop where
  len : zs.length ≤ cap
  max : cap ≤ maxLen
  own : 0 < cap → ∃ g cur, a = some ⟨g, 0, none⟩ ∧ B ≤ g ∧ w.heap[g]? = some (.cells cur e (0, 0)) ∧ cap * k ≤ cur.size ∧ ∀ j, j < zs.length * k → cur[j]? = (flat R zs)[j]?

section
variable {α : Type} {w w' : World} {B : Nat} {e : TypeId} {a : Option Addr} {cap k : Nat} {R : α → List Value} {zs : List α}

theorem Row.nil (w : World) (B : Nat) (e : TypeId) (a : Option Addr) (k : Nat) (R : α → List Value) : Row w B e a 0 k R [] :=
  ⟨Nat.le_refl _, Nat.zero_le _, fun h => absurd h (Nat.lt_irrefl 0)⟩
theorem Row.low {B' : Nat} (h : Row w B e a cap k R zs) (hB : B' ≤ B) : Row w B' e a cap k R zs :=
  ⟨h.len, h.max, fun hp => by obtain ⟨g, cur, h1, h2, h3⟩ := h.own hp; exact ⟨g, cur, h1, Nat.le_trans hB h2, h3⟩⟩
theorem Row.clip (h : Row w B e a cap k R zs) : Row w B e a zs.length k R zs :=
  ⟨Nat.le_refl _, Nat.le_trans h.len h.max, fun hp => by
    obtain ⟨g, cur, h1, h2, h3, h4, h5⟩ := h.own (Nat.lt_of_lt_of_le hp h.len)
    exact ⟨g, cur, h1, h2, h3, Nat.le_trans (Nat.mul_le_mul_right k h.len) h4, h5⟩⟩
theorem Row.blk (h : Row w B e a cap k R zs) {g : Nat} (hg : rowBlk a cap = some g) : B ≤ g ∧ g < w.heap.size := by
  unfold rowBlk at hg
  split at hg
  · cases hg
  · obtain ⟨g', cur, rfl, h2, h3, _⟩ := h.own (by omega)
    simp at hg
    subst hg
    exact ⟨h2, lt_of_block h3⟩
theorem Row.kept {row : Option Nat} (h : Row w B e a cap k R zs) (hg : w.grownBy w' row) (hne : ∀ g, rowBlk a cap = some g → row ≠ some g) : Row w' B e a cap k R zs :=
  ⟨h.len, h.max, fun hp => by
    obtain ⟨g, cur, rfl, h2, h3, h4⟩ := h.own hp
    refine ⟨g, cur, rfl, h2, ?_, h4⟩
    rw [hg.block g (lt_of_block h3) (fun e => hne g (by simp [rowBlk]; omega) e.symm)]
    exact h3⟩
theorem Row.below (h : Row w B e a cap k R zs) (hb : Below w.heap.size w w') : Row w' B e a cap k R zs :=
  ⟨h.len, h.max, fun hp => by
    obtain ⟨g, cur, rfl, h2, h3, h4⟩ := h.own hp
    exact ⟨g, cur, rfl, h2, (hb.block g (lt_of_block h3)).trans h3, h4⟩⟩
theorem Row.rows (h : Row w B e a cap k R zs) (hR : ∀ z, (R z).length = k) : RowsAt w a k R zs := by
  intro i hi
  obtain ⟨g, cur, rfl, h2, h3, h4, h5⟩ := h.own (Nat.lt_of_lt_of_le (Nat.lt_of_le_of_lt (Nat.zero_le _) hi) h.len)
  refine ⟨g, 0, rfl, lt_of_block h3, fun j hj => ?_⟩
  have hlt : i * k + j < zs.length * k := by
    have h1 : (i + 1) * k ≤ zs.length * k := Nat.mul_le_mul_right k hi
    rw [Nat.succ_mul] at h1
    omega
  rw [cell_of_block h3, Nat.zero_add, h5 _ hlt]
  exact flat_get hR zs i hi j hj
theorem Row.sl (h : Row w B e a cap k R zs) (hR : ∀ z, (R z).length = k) : IsSl w (.slice a zs.length cap) k R zs :=
  ⟨a, cap, rfl, h.len, h.max, h.rows hR⟩

theorem flat_append (R : α → List Value) (xs ys : List α) : flat R (xs ++ ys) = flat R xs ++ flat R ys := by
  simp [flat, List.flatMap_append]
theorem flat_mem_one {R : α → List Value} (h1 : ∀ z, ∀ u ∈ R z, u.oneCell' = true) (zs : List α) : ∀ u ∈ zs.flatMap R, u.oneCell' = true := by
  intro u hu
  obtain ⟨z, _, hz⟩ := List.mem_flatMap.1 hu
  exact h1 z u hz
theorem flatMap_length {R : α → List Value} (hR : ∀ z, (R z).length = k) (zs : List α) : (zs.flatMap R).length = zs.length * k := by
  have := flat_size hR zs
  simpa [flat] using this

theorem RowsAt.news {ys : List α} {ad : Addr} (hR : ∀ z, (R z).length = k) (h0 : 0 < k) (h : RowsAt w (some ad) k R ys) : ∀ j u, (ys.flatMap R)[j]? = some u → w.cell? (ad.add j) = some u := by
  intro j u hu
  have hj : j < ys.length * k := by
    rw [← flatMap_length hR ys]
    exact (List.getElem?_eq_some_iff.1 hu).1
  have hi : j / k < ys.length := by
    rw [Nat.div_lt_iff_lt_mul h0]; exact hj
  obtain ⟨b, off, q, _, hc⟩ := h (j / k) hi
  injection q with q
  subst q
  have hm := Nat.mod_lt j h0
  have h2 := hc (j % k) hm
  have h3 := flat_get hR ys (j / k) hi (j % k) hm
  have hdm : j / k * k + j % k = j := by rw [Nat.mul_comm]; exact Nat.div_add_mod j k
  rw [hdm] at h3
  rw [Nat.add_assoc, hdm] at h2
  rw [Go.WideShapes.add_plain, h2, ← h3]
  simpa [flat] using hu
theorem RowsAt.none_nil {ys : List α} (h : RowsAt w none k R ys) : ys = [] := by
  cases ys with
  | nil => rfl
  | cons y ys =>
    obtain ⟨_, _, q, _⟩ := h 0 (by simp)
    cases q
theorem RowsAt.src {P : Program} {tx e' : TypeId} {ys : List α} {ay : Option Addr} {cy : Nat} (hk : P.underlying tx = some (.slice e')) (hR : ∀ z, (R z).length = k) (h0 : 0 < k) (h1 : ∀ z, ∀ u ∈ R z, u.oneCell' = true) (h : RowsAt w ay k R ys) :
    Src P k tx (.slice ay ys.length cy) ys.length (ys.flatMap R) w := by
  cases ay with
  | none =>
    have h0 := h.none_nil
    subst h0
    exact Src.ofNil w hk cy
  | some ad => exact Src.ofSlice w hk ad ys.length cy _ (flatMap_length hR ys) (h.news hR h0) (flat_mem_one h1 ys)
theorem RowsAt.firsts {P : Program} {ys : List α} {ay : Option Addr} {cy : Nat} (hR : ∀ z, (R z).length = k) (h0 : 0 < k) (h : RowsAt w ay k R ys) : (Builtin.firstCells k ys.length (.slice ay ys.length cy)).run P w = .ok (ys.flatMap R).toArray w := by
  cases ay with
  | none =>
    have h0 := h.none_nil
    subst h0
    exact run_firstCells_none w k 0 0 cy
  | some ad => exact run_firstCells_some w k ys.length ad ys.length cy _ (flatMap_length hR ys) (h.news hR h0)

/-- append to such a slice. -/
theorem run_append_row {P : Program} {t tx ty e' : TypeId} {i : TypeInfo} {z : Value} {bytes : Nat} (ht : P.underlying t = some (.slice e)) (htx : P.underlying tx = some (.slice e')) (hi : P.info? e = some i) (hz : i.zero = some z)
    (hsize : i.size = k) (hby : i.bytes = bytes) (hzs : z.cells.size = k) (h0 : 0 < k) (hR : ∀ z, (R z).length = k) (h1 : ∀ z, ∀ u ∈ R z, u.oneCell' = true)
    (hrow : Row w B e a cap k R zs) {ys : List α} {ay : Option Addr} {cy : Nat} (hys : RowsAt w ay k R ys) (h63 : zs.length + ys.length ≤ maxLen) (hbytes : (zs.length + ys.length) * bytes ≤ 140737488355328) (hB : B ≤ w.heap.size) :
    ∃ a' cap' w', (Builtin.append_ #[t, tx] ty #[.slice a zs.length cap, .slice ay ys.length cy]).run P w = .ok (.slice a' (zs.length + ys.length) cap') w' ∧ Row w' B e a' cap' k R (zs ++ ys) ∧ w.grownBy w' (rowBlk a cap) ∧
      (rowBlk a' cap' = rowBlk a cap ∨ rowBlk a' cap' = some w.heap.size) ∧ (zs.length + ys.length ≤ cap → a' = a ∧ cap' = cap) := by
  subst hsize hby
  have hs := RowsAt.src (P := P) (w := w) (cy := cy) htx hR h0 h1 hys
  have hlz := flatMap_length hR zs
  have hly := flatMap_length hR ys
  have hsmall : zs.length + ys.length ≤ 9223372036854775807 := by simp only [maxLen] at h63; omega
  by_cases hroom : zs.length + ys.length ≤ cap
  · by_cases hc0 : cap = 0
    · subst hc0
      have e1 : zs = [] := List.eq_nil_of_length_eq_zero (by omega)
      have e2 : ys = [] := List.eq_nil_of_length_eq_zero (by omega)
      subst e1 e2
      refine ⟨a, 0, w, ?_, Row.nil w B e a i.size R, World.grownBy.refl w _, .inl rfl, fun _ => ⟨rfl, rfl⟩⟩
      have hl := hs.len
      have hcl := hs.cells
      simp only [List.flatMap_nil, List.length_nil] at hl hcl ⊢
      cases a with
      | none => simp [Builtin.append_, run_underlying ht, run_underlying htx, sizeOf, typeInfo, hi, hl, hcl]
      | some ad => simp [Builtin.append_, run_underlying ht, run_underlying htx, sizeOf, typeInfo, hi, hl, hcl, storeCells]
    · obtain ⟨g, cur, rfl, hBg, hg, hcs, hcur⟩ := hrow.own (by omega)
      have hb : rowBlk (some ⟨g, 0, none⟩) cap = some g := by simp [rowBlk, hc0]
      cases ay with
      | none =>
        have e2 := hys.none_nil
        subst e2
        refine ⟨some ⟨g, 0, none⟩, cap, w, ?_, by rw [List.append_nil]; exact hrow, World.grownBy.refl w _, .inl rfl, fun _ => ⟨rfl, rfl⟩⟩
        have hl := hs.len
        have hcl := hs.cells
        simp only [List.flatMap_nil, List.length_nil, Nat.add_zero] at hl hcl hroom ⊢
        simp [Builtin.append_, run_underlying ht, run_underlying htx, sizeOf, typeInfo, hi, hl, hcl, hroom, storeCells]
      | some ad =>
        have hfit : zs.length * i.size + (ys.flatMap R).length ≤ cur.size := by rw [hly, ← Nat.add_mul]; exact Nat.le_trans (Nat.mul_le_mul_right _ hroom) hcs
        have hst := run_storeCells_at P g (zs.length * i.size) e (ys.flatMap R) 0 cur w hg (by simpa using hfit) (flat_mem_one h1 ys)
        simp only [Nat.add_zero] at hst
        have hl := hs.len
        have hcl := hs.cells
        refine ⟨some ⟨g, 0, none⟩, cap, w.setRow g (cur.toList.take (zs.length * i.size) ++ ys.flatMap R ++ cur.toList.drop (zs.length * i.size + (ys.flatMap R).length)).toArray, ?_, ⟨by rw [List.length_append]; exact hroom, hrow.max, fun _ => ⟨g, _, rfl, hBg, setRow_heap w g cur _ e _ hg, ?_, ?_⟩⟩, ⟨rfl, rfl, rfl, by simp [World.setRow], fun b _ hne => setRow_other w g b _ (fun e => hne (by rw [hb, e]))⟩, .inl rfl, fun _ => ⟨rfl, rfl⟩⟩
        · simp [Builtin.append_, run_underlying ht, run_underlying htx, sizeOf, typeInfo, hi, hl, hcl, hroom, Addr.add_lit, hst]
        · simp only [List.size_toArray, List.length_append, List.length_take, List.length_drop, Array.length_toList]
          rw [Nat.min_eq_left (by omega)]
          omega
        · intro j hj
          have htk : (cur.toList.take (zs.length * i.size)).length = zs.length * i.size := by
            simp only [List.length_take, Array.length_toList]; omega
          rw [List.length_append, Nat.add_mul] at hj
          rw [List.getElem?_toArray, flat_append, List.append_assoc]
          by_cases hjz : j < zs.length * i.size
          · rw [List.getElem?_append_left (by rw [htk]; exact hjz), List.getElem?_take_of_lt hjz, Array.getElem?_append_left (by rw [flat_size hR]; exact hjz), ← hcur j hjz, Array.getElem?_toList]
          · rw [List.getElem?_append_right (by rw [htk]; omega), htk, List.getElem?_append_left (by omega), Array.getElem?_append_right (by rw [flat_size hR]; omega), flat_size hR]
            simp [flat]
  · have hr := run_append_grow_src (P := P) w t tx ty e i z ht hi hz a zs.length cap (zs.flatMap R) (by
      have hw : RowsAt w.drew a i.size R zs := hrow.rows hR
      exact hw.firsts (P := P) (cy := cap) hR h0) (.slice ay ys.length cy) ys.length (ys.flatMap R) hs (by omega) (by omega) (growslice_fits (by omega) hbytes)
    have hge := grownCap_ge w (zs.length + ys.length) cap e
    refine ⟨_, _, _, hr, ⟨by rw [List.length_append]; exact hge, grownCap_le_maxLen w _ _ e h63, fun _ => ⟨w.heap.size, _, rfl, hB, heap_alloc_new w.drew _, ?_, ?_⟩⟩, ⟨rfl, rfl, rfl, by simp, fun b hb _ => Below.heap_alloc w.drew _ b hb⟩, .inr ?_, fun h => absurd h hroom⟩
    · simp only [Array.size_append, List.size_toArray, List.length_append, size_zeroCells, hzs, hlz, hly, ← Nat.add_mul]
      exact Nat.mul_le_mul_right _ (by omega)
    · intro j hj
      rw [← flatMap_length hR] at hj
      rw [Array.getElem?_append_left (by rw [List.size_toArray, ← List.flatMap_append]; exact hj), ← List.flatMap_append]
      simp [flat]
    · have : ¬ grownCap w (zs.length + ys.length) cap e = 0 := by omega
      simp [rowBlk, this]

/-- What a slice type's elements are: their type, cells, bytes, rows. -/
structure Elt (P : Program) (t e : TypeId) (k bytes : Nat) (R : α → List Value) : Prop where
  under : P.underlying t = some (.slice e)
  info : ∃ i z, P.info? e = some i ∧ i.zero = some z ∧ i.size = k ∧ i.bytes = bytes ∧ z.cells.size = k
  pos : 0 < k
  len : ∀ z, (R z).length = k
  one : ∀ z, ∀ u ∈ R z, u.oneCell' = true

/-- What append leaves: a row, and where it lies. -/
structure Appended (w w' : World) (B : Nat) (e : TypeId) (a a' : Option Addr) (cap cap' k : Nat) (R : α → List Value) (zs : List α) : Prop where
  row : Row w' B e a' cap' k R zs
  grown : w.grownBy w' (rowBlk a cap)
  blk : rowBlk a' cap' = rowBlk a cap ∨ rowBlk a' cap' = some w.heap.size
  stay : zs.length ≤ cap → a' = a ∧ cap' = cap

theorem run_append_elt {P : Program} {t ty : TypeId} {bytes n m N : Nat} (el : Elt P t e k bytes R) (hrow : Row w B e a cap k R zs) {ys : List α} {ay : Option Addr} {cy : Nat} (hys : RowsAt w ay k R ys) (hn : zs.length = n) (hm : ys.length = m) (hN : n + m = N)
    (h63 : N ≤ maxLen) (hbytes : N * bytes ≤ 140737488355328) (hB : B ≤ w.heap.size) :
    ∃ a' cap' w', (Builtin.append_ #[t, t] ty #[.slice a n cap, .slice ay m cy]).run P w = .ok (.slice a' N cap') w' ∧ Appended w w' B e a a' cap cap' k R (zs ++ ys) := by
  subst hn hm hN
  obtain ⟨i, z, h1, h2, h3, h4, h5⟩ := el.info
  obtain ⟨a', cap', w', q1, q2, q3, q4, q5⟩ := run_append_row (ty := ty) (cy := cy) el.under el.under h1 h2 h3 h4 h5 el.pos el.len el.one hrow hys h63 hbytes hB
  exact ⟨a', cap', w', q1, q2, q3, q4, fun h => q5 (by rw [List.length_append] at h; exact h)⟩

/-- The law at a list of operations. -/
theorem wpList_append_row {P : Program} {ops : Array Oper} {rest : List Oper} {o : Oper} {ac : Act} {Q : Exit → Act → World → Prop} (hgd : o.guard = none) (s x : Operand) {t : TypeId}
    (ho : o.op = .call { callee := .builtin .append, args := #[s, x], argTypes := #[t, t] }) {bytes n m : Nat} (N : Nat) (el : Elt P t e k bytes R) {ys : List α} {ay : Option Addr} {cy : Nat} (hs : ac.eval s = .slice a n cap) (hx : ac.eval x = .slice ay m cy)
    (hrow : Row w B e a cap k R zs) (hys : RowsAt w ay k R ys) (hn : zs.length = n) (hm : ys.length = m) (hN : n + m = N) (h63 : N ≤ maxLen) (hbytes : N * bytes ≤ 140737488355328) (hB : B ≤ w.heap.size)
    (h : ∀ a' cap' w', Appended w w' B e a a' cap cap' k R (zs ++ ys) → wpList P ops Q rest (ac.put o.dst (.slice a' N cap')) w') : wpList P ops Q (o :: rest) ac w := by
  refine wpList_plain hgd fun K hK => ?_
  obtain ⟨a', cap', w', hrun, q⟩ := run_append_elt (ty := o.type) (cy := cy) el hrow hys hn hm hN h63 hbytes hB
  unfold Oper.wp
  simp [execOp, ho, resolve, invoke, builtin, hs, hx, hrun, Result.andThen]
  exact hK _ _ (h a' cap' w' q)

/-- The law at a step of a region that draws its order. -/
theorem step_append_elt {P : Program} {ops : Array Oper} {o : Oper} {ac : Act} {K : Act → World → Prop} {Q : Exit → Act → World → Prop} {E : Prop} (hgd : o.guard = none) (s x : Operand) {t : TypeId}
    (ho : o.op = .call { callee := .builtin .append, args := #[s, x], argTypes := #[t, t] }) {bytes n m : Nat} (N : Nat) (el : Elt P t e k bytes R) {ys : List α} {ay : Option Addr} {cy : Nat} (hs : ac.eval s = .slice a n cap) (hx : ac.eval x = .slice ay m cy)
    (hrow : Row w B e a cap k R zs) (hys : RowsAt w ay k R ys) (hn : zs.length = n) (hm : ys.length = m) (hN : n + m = N) (h63 : N ≤ maxLen) (hbytes : N * bytes ≤ 140737488355328) (hB : B ≤ w.heap.size)
    (h : ∀ a' cap' w', Appended w w' B e a a' cap cap' k R (zs ++ ys) → K (ac.put o.dst (.slice a' N cap')) w') :
    if Region.wanted o (yielded ops ac.tmps) = true then Oper.wp P o ac w K Q else E := by
  have hw : Region.wanted o (yielded ops ac.tmps) = true := by simp [Region.wanted, hgd]
  rw [if_pos hw]
  obtain ⟨a', cap', w', hrun, q⟩ := run_append_elt (ty := o.type) (cy := cy) el hrow hys hn hm hN h63 hbytes hB
  unfold Oper.wp
  simp [execOp, ho, resolve, invoke, builtin, hs, hx, hrun, Result.andThen]
  exact h a' cap' w' q
end

/-- What append to a slice without room leaves. -/
structure NewRow {α : Type} (w w' : World) (B : Nat) (e : TypeId) (a' : Option Addr) (cap' k : Nat) (R : α → List Value) (zs : List α) : Prop where
  row : Row w' B e a' cap' k R zs
  below : Below w.heap.size w w'
  blk : ∀ g, rowBlk a' cap' = some g → g = w.heap.size
theorem Appended.new {α : Type} {w w' : World} {B e k cap' : Nat} {a a' : Option Addr} {R : α → List Value} {zs : List α} (h : Appended w w' B e a a' 0 cap' k R ([] ++ zs)) : NewRow w w' B e a' cap' k R zs :=
  ⟨h.row, ⟨h.grown.os, h.grown.tape, h.grown.output, h.grown.size, fun b hb => h.grown.block b hb (by simp [rowBlk])⟩, fun g hg => by
    rcases h.blk with q | q
    · rw [hg] at q; simp [rowBlk] at q
    · rw [hg] at q
      injection q⟩
theorem step_append_new {α : Type} {w : World} (B : Nat) {e k : Nat} {a : Option Addr} {R : α → List Value} {P : Program} {ops : Array Oper} {o : Oper} {ac : Act} {K : Act → World → Prop} {Q : Exit → Act → World → Prop} {E : Prop} (hgd : o.guard = none) (s x : Operand) {t : TypeId}
    (ho : o.op = .call { callee := .builtin .append, args := #[s, x], argTypes := #[t, t] }) {bytes m : Nat} (el : Elt P t e k bytes R) {ys : List α} {ay : Option Addr} {cy : Nat} (hs : ac.eval s = .slice a 0 0) (hx : ac.eval x = .slice ay m cy)
    (hys : RowsAt w ay k R ys) (hm : ys.length = m) (h63 : m ≤ maxLen) (hbytes : m * bytes ≤ 140737488355328) (hB : B ≤ w.heap.size)
    (h : ∀ a' cap' w', NewRow w w' B e a' cap' k R ys → K (ac.put o.dst (.slice a' m cap')) w') :
    if Region.wanted o (yielded ops ac.tmps) = true then Oper.wp P o ac w K Q else E :=
  step_append_elt hgd s x ho m el hs hx (Row.nil w B e a k R) hys rfl hm (Nat.zero_add m) h63 hbytes hB fun a' c' w' q => h a' c' w' q.new
theorem wpList_append_new {α : Type} {w : World} (B : Nat) {e k : Nat} {a : Option Addr} {R : α → List Value} {P : Program} {ops : Array Oper} {rest : List Oper} {o : Oper} {ac : Act} {Q : Exit → Act → World → Prop} (hgd : o.guard = none) (s x : Operand) {t : TypeId}
    (ho : o.op = .call { callee := .builtin .append, args := #[s, x], argTypes := #[t, t] }) {bytes m : Nat} (el : Elt P t e k bytes R) {ys : List α} {ay : Option Addr} {cy : Nat} (hs : ac.eval s = .slice a 0 0) (hx : ac.eval x = .slice ay m cy)
    (hys : RowsAt w ay k R ys) (hm : ys.length = m) (h63 : m ≤ maxLen) (hbytes : m * bytes ≤ 140737488355328) (hB : B ≤ w.heap.size)
    (h : ∀ a' cap' w', NewRow w w' B e a' cap' k R ys → wpList P ops Q rest (ac.put o.dst (.slice a' m cap')) w') : wpList P ops Q (o :: rest) ac w :=
  wpList_append_row hgd s x ho m el hs hx (Row.nil w B e a k R) hys rfl hm (Nat.zero_add m) h63 hbytes hB fun a' c' w' q => h a' c' w' q.new
theorem NewRow.apart {α : Type} {w w' : World} {B e k cap' : Nat} {a' : Option Addr} {R : α → List Value} {zs : List α} (h : NewRow w w' B e a' cap' k R zs) {β : Type} {B2 e2 k2 cap2 : Nat} {a2 : Option Addr} {R2 : β → List Value} {ys : List β} (r : Row w B2 e2 a2 cap2 k2 R2 ys) : ∀ g, rowBlk a' cap' = some g → rowBlk a2 cap2 ≠ some g := by
  intro g hg h2
  have hlt := (r.blk h2).2
  have := h.blk g hg
  omega

theorem step_build0 {α : Type} {w : World} {e k bytes : Nat} {R : α → List Value} {P : Program} {ops : Array Oper} {o : Oper} {ac : Act} {K : Act → World → Prop} {Q : Exit → Act → World → Prop} {E : Prop} (hgd : o.guard = none) {t : TypeId}
    (ho : o.op = .buildSlice t 0 #[]) (el : Elt P t e k bytes R) (h : K (ac.put o.dst (.slice (some ⟨w.heap.size, 0, none⟩) 0 0)) (w.alloc (.cells #[] e))) :
    if Region.wanted o (yielded ops ac.tmps) = true then Oper.wp P o ac w K Q else E := by
  have hw : Region.wanted o (yielded ops ac.tmps) = true := by simp [Region.wanted, hgd]
  rw [if_pos hw]
  obtain ⟨i, z, h2, h3, h4, h5, h6⟩ := el.info
  unfold Oper.wp
  simp [execOp, ho, Result.andThen, Instr.buildSlice, run_underlying el.under, zeroValue, sizeOf, typeInfo, h2, h3, newRow, h4, Instr.fill]
  have h0 : (Array.map (fun _ => (default : Value)) (Array.range 0)) = #[] := by simp
  rw [h0]
  exact h

/-! What go_region_held3 is told: below B the world is as W was; stores from B on are let in. -/
theorem KeptB.refl (B : Nat) (W : World) : ((∀ b o, b < B → (W).cell? ⟨b, o, none⟩ = (W).cell? ⟨b, o, none⟩) ∧ Below (B) (W) (W)) := ⟨fun _ _ _ => rfl, Below.refl _ _⟩
theorem KeptB.of {B : Nat} {W w1 : World} (h : Below B W w1) : ((∀ b o, b < B → (w1).cell? ⟨b, o, none⟩ = (W).cell? ⟨b, o, none⟩) ∧ Below (B) (W) (w1)) := ⟨fun b o hb => h.cell (p := ⟨b, o, none⟩) hb, h⟩
theorem KeptB.drew {B : Nat} {W w1 : World} (h : ((∀ b o, b < B → (w1).cell? ⟨b, o, none⟩ = (W).cell? ⟨b, o, none⟩) ∧ Below (B) (W) (w1))) : ((∀ b o, b < B → (w1.drew).cell? ⟨b, o, none⟩ = (W).cell? ⟨b, o, none⟩) ∧ Below (B) (W) (w1.drew)) := ⟨h.1, h.2.drew⟩
theorem KeptB.alloc {B : Nat} {W w1 : World} (hB : B ≤ W.heap.size) (x : Obj) (h : ((∀ b o, b < B → (w1).cell? ⟨b, o, none⟩ = (W).cell? ⟨b, o, none⟩) ∧ Below (B) (W) (w1))) : ((∀ b o, b < B → (w1.alloc x).cell? ⟨b, o, none⟩ = (W).cell? ⟨b, o, none⟩) ∧ Below (B) (W) (w1.alloc x)) := KeptB.of (h.2.alloc (Nat.le_trans hB h.2.size) x)
theorem KeptB.next {B : Nat} {W w1 w2 : World} (hB : B ≤ W.heap.size) (h : ((∀ b o, b < B → (w1).cell? ⟨b, o, none⟩ = (W).cell? ⟨b, o, none⟩) ∧ Below (B) (W) (w1))) (k : Below w1.heap.size w1 w2) : ((∀ b o, b < B → (w2).cell? ⟨b, o, none⟩ = (W).cell? ⟨b, o, none⟩) ∧ Below (B) (W) (w2)) := KeptB.of (h.2.trans (k.mono (Nat.le_trans hB h.2.size)))
theorem KeptB.set {B : Nat} {W w1 : World} {p : Addr} (hp : B ≤ p.block) (v : Value) (h : ((∀ b o, b < B → (w1).cell? ⟨b, o, none⟩ = (W).cell? ⟨b, o, none⟩) ∧ Below (B) (W) (w1))) : ((∀ b o, b < B → (w1.setCell p v).cell? ⟨b, o, none⟩ = (W).cell? ⟨b, o, none⟩) ∧ Below (B) (W) (w1.setCell p v)) := KeptB.of (h.2.setCell hp v)
theorem KeptB.weak {B B' : Nat} {W w1 : World} (h : ((∀ b o, b < B' → (w1).cell? ⟨b, o, none⟩ = (W).cell? ⟨b, o, none⟩) ∧ Below (B') (W) (w1))) (hB : B ≤ B') : ((∀ b o, b < B → (w1).cell? ⟨b, o, none⟩ = (W).cell? ⟨b, o, none⟩) ∧ Below (B) (W) (w1)) := KeptB.of (h.2.mono hB)

section
variable {α : Type} {w w' : World} {B : Nat} {e : TypeId} {a : Option Addr} {cap k : Nat} {R : α → List Value} {zs : List α}
theorem Row.drew (h : Row w B e a cap k R zs) : Row w.drew B e a cap k R zs := ⟨h.len, h.max, h.own⟩
theorem Row.alloc (h : Row w B e a cap k R zs) (o : Obj) : Row (w.alloc o) B e a cap k R zs := h.below ((Below.refl _ _).alloc (Nat.le_refl _) o)
/-- A store into another block. -/
theorem Row.setOther (h : Row w B e a cap k R zs) {p : Addr} (hp : p.block < B) (v : Value) : Row (w.setCell p v) B e a cap k R zs :=
  ⟨h.len, h.max, fun hc => by
    obtain ⟨g, cur, rfl, h2, h3, h4⟩ := h.own hc
    exact ⟨g, cur, rfl, h2, (Below.heap_setCell w p v g (by omega)).trans h3, h4⟩⟩
theorem Row.setNe (h : Row w B e a cap k R zs) {p : Addr} (hp : ∀ g, rowBlk a cap = some g → g ≠ p.block) (v : Value) : Row (w.setCell p v) B e a cap k R zs :=
  ⟨h.len, h.max, fun hc => by
    obtain ⟨g, cur, rfl, h2, h3, h4⟩ := h.own hc
    exact ⟨g, cur, rfl, h2, (Below.heap_setCell w p v g (hp g (by simp [rowBlk]; omega))).trans h3, h4⟩⟩
theorem Appended.below {B' : Nat} {a' : Option Addr} {cap' : Nat} (h : Appended w w' B e a a' cap cap' k R zs) (hB : B' ≤ w.heap.size) (hn : ∀ g, rowBlk a cap = some g → B' ≤ g) : Below B' w w' :=
  ⟨h.grown.os, h.grown.tape, h.grown.output, h.grown.size, fun b hb => h.grown.block b (by omega) (fun e => by have := hn b e.symm; omega)⟩
end

theorem five_one : ∀ z : Rq, ∀ u ∈ z.cs, u.oneCell' = true := by
  intro z u hu
  simp [Rq.cs] at hu
  rcases hu with rfl | rfl | rfl | rfl | rfl <;> rfl
theorem int_one : ∀ z : Int, ∀ u ∈ intR z, u.oneCell' = true := by
  intro z u hu
  simp [intR] at hu
  subst hu
  rfl
set_option maxRecDepth 100000 in
theorem eltInt : Elt Tryd.prog 34 3 1 8 intR := by
  obtain ⟨i, h1, h2, h3, h4⟩ := info_parts (P := Tryd.prog) (e := 3) (z := .int .i64 0) (size := 1) (bytes := 8) (by kernel_rfl)
  exact ⟨Tryd.underlying34, ⟨i, _, h1, h2, h3, h4, rfl⟩, by decide, fun _ => rfl, int_one⟩
set_option maxRecDepth 100000 in
theorem eltReq : Elt Tryd.prog 61 46 5 40 Rq.cs := by
  obtain ⟨i, h1, h2, h3, h4⟩ := info_parts (P := Tryd.prog) (e := 46) (z := .agg #[.int .i64 0, .int .i64 0, .int .i64 0, .int .i64 0, .int .i64 0]) (size := 5) (bytes := 40) (by kernel_rfl)
  exact ⟨Tryd.underlying61, ⟨i, _, h1, h2, h3, h4, rfl⟩, by decide, fun _ => rfl, five_one⟩
set_option maxRecDepth 100000 in
theorem eltEnt : Elt Tryd.prog 39 92 5 40 Rq.cs := by
  obtain ⟨i, h1, h2, h3, h4⟩ := info_parts (P := Tryd.prog) (e := 92) (z := .agg #[.int .i64 0, .int .i64 0, .int .i64 0, .int .i64 0, .int .i64 0]) (size := 5) (bytes := 40) (by kernel_rfl)
  exact ⟨Tryd.underlying39, ⟨i, _, h1, h2, h3, h4, rfl⟩, by decide, fun _ => rfl, five_one⟩
end Go.Proofs.YtilldpoleiippaaDoor

/-! Contracts of the functions on requests (in, ReqOk and their kin); no condition. -/
namespace Go.Proofs.YtilldpoleiippaaDoor
open Go.RowKit

set_option maxHeartbeats 400000 in
theorem l1In_c (n lo hi : Int) (w : World) :
    Calls Tryd.prog 106 #[.int .i64 n, .int .i64 lo, .int .i64 hi] w fun e w' => e = .returned (.bool (inB n lo hi)) ∧ w = w' := by
  go_enter Tryd.func106, Tryd.ntmps106
  go_wp2
  · go_ret
    exact ⟨ret_bool (by have h : lo ≤ n := by assumption
                        simp [inB, h]), rfl⟩
  · go_ret
    exact ⟨ret_bool (by have h : n < lo := by assumption
                        have h' : ¬ lo ≤ n := by omega
                        simp [inB, h']), rfl⟩

set_option maxHeartbeats 400000 in
theorem in_c (n lo hi : Int) (w : World) :
    Calls Tryd.prog 80 #[.int .i64 n, .int .i64 lo, .int .i64 hi] w fun e w' => e = .returned (.bool (inB n lo hi)) ∧ w = w' := by
  go_enter Tryd.func80, Tryd.ntmps80
  go_wp2
  · go_ret
    exact ⟨ret_bool (by have h : lo ≤ n := by assumption
                        simp [inB, h]), rfl⟩
  · go_ret
    exact ⟨ret_bool (by have h : n < lo := by assumption
                        have h' : ¬ lo ≤ n := by omega
                        simp [inB, h']), rfl⟩

set_option maxHeartbeats 400000 in
theorem isClient_c (n : Int) (w : World) :
    Calls Tryd.prog 79 #[.int .i64 n] w fun e w' => e = .returned (.bool (inB n 1 4)) ∧ w = w' := by
  go_enter Tryd.func79, Tryd.ntmps79
  go_wp2_with (go_at_call 80; refine (in_c _ _ _ _).mono ?_; rintro e w' ⟨rfl, rfl⟩)
  go_ret
  exact ⟨rfl, rfl⟩

set_option maxHeartbeats 1000000 in
theorem l1Ok_c (c n o x y : Int) (w : World) :
    Calls Tryd.prog 72 #[.agg #[.int .i64 c, .int .i64 n, .int .i64 o, .int .i64 x, .int .i64 y]] w fun e w' => e = .returned (.bool (okB c n o x y)) ∧ Below w.heap.size w w' := by
  go_enter Tryd.func72, Tryd.ntmps72
  go_wp2_with (go_at_call 106; refine (l1In_c _ _ _ _).mono ?_; rintro e w' ⟨rfl, rfl⟩)
  all_goals go_ret
  all_goals refine ⟨ret_bool ?_, (by repeat' (first | with_reducible exact Below.refl _ _ | with_reducible assumption | with_reducible refine Below.alloc ?_ ?_ _ | with_reducible refine Below.drew ?_ | with_reducible refine Below.setCell ?_ ?_ _ | omega | (simp; omega) | (simp; done)))⟩
  all_goals simp_all [okB]

set_option maxHeartbeats 1000000 in
theorem ReqOk_c (c n o x y : Int) (w : World) :
    Calls Tryd.prog 32 #[.agg #[.int .i64 c, .int .i64 n, .int .i64 o, .int .i64 x, .int .i64 y]] w fun e w' => e = .returned (.bool (okB c n o x y)) ∧ Below w.heap.size w w' := by
  go_enter Tryd.func32, Tryd.ntmps32
  go_wp2_with (first
    | (go_at_call 80; refine (in_c _ _ _ _).mono ?_; rintro e w' ⟨rfl, rfl⟩)
    | (go_at_call 79; refine (isClient_c _ _).mono ?_; rintro e w' ⟨rfl, rfl⟩))
  all_goals go_ret
  all_goals refine ⟨ret_bool ?_, (by repeat' (first | with_reducible exact Below.refl _ _ | with_reducible assumption | with_reducible refine Below.alloc ?_ ?_ _ | with_reducible refine Below.drew ?_ | with_reducible refine Below.setCell ?_ ?_ _ | omega | (simp; omega) | (simp; done)))⟩
  all_goals simp_all [okB]

set_option maxHeartbeats 400000 in
theorem sReqOk_c (c n o x y : Int) (w : World) :
    Calls Tryd.prog 33 #[.agg #[.int .i64 c, .int .i64 n, .int .i64 o, .int .i64 x, .int .i64 y]] w fun e w' => e = .returned (.bool (okB c n o x y)) ∧ Below w.heap.size w w' := by
  go_enter Tryd.func33, Tryd.ntmps33
  go_wp2_with (go_at_call 72; refine (l1Ok_c _ _ _ _ _ _).mono ?_; rintro e w' ⟨rfl, hb⟩)
  go_ret
  exact ⟨rfl, ((Below.refl _ _).alloc (Nat.le_refl _) _).trans (hb.mono (by simp))⟩

set_option maxHeartbeats 1000000 in
theorem eqReq_c (c n o x y c' n' o' x' y' : Int) (w : World) :
    Calls Tryd.prog 28 #[.agg #[.int .i64 c, .int .i64 n, .int .i64 o, .int .i64 x, .int .i64 y], .agg #[.int .i64 c', .int .i64 n', .int .i64 o', .int .i64 x', .int .i64 y']] w fun e w' => e = .returned (.bool (c == c' && n == n' && o == o' && x == x' && y == y')) ∧ Below w.heap.size w w' := by
  go_enter Tryd.func28, Tryd.ntmps28
  go_wp2
  all_goals go_ret
  all_goals refine ⟨ret_bool ?_, (by repeat' (first | with_reducible exact Below.refl _ _ | with_reducible assumption | with_reducible refine Below.alloc ?_ ?_ _ | with_reducible refine Below.drew ?_ | with_reducible refine Below.setCell ?_ ?_ _ | omega | (simp; omega) | (simp; done)))⟩
  all_goals simp_all
end Go.Proofs.YtilldpoleiippaaDoor

/-! Contracts of the functions that copy a law's slices (toIntS, toEntS, toReqS), that weigh and that compare them; condition: at most 2^20 elements. -/
namespace Go.Proofs.YtilldpoleiippaaDoor
open Go.RowKit Go.Joins

theorem flat_int (zs : List Int) : flat intR zs = (zs.map (Value.int .i64)).toArray := by
  unfold flat
  congr 1
  induction zs with
  | nil => rfl
  | cons z zs ih => simp [List.flatMap_cons, intR] at ih ⊢; exact ih
theorem flat_int_set (zs : List Int) (i : Nat) (x : Int) : (flat intR zs).setIfInBounds i (.int .i64 x) = flat intR (zs.set i x) := by
  rw [flat_int, flat_int, List.setIfInBounds_toArray, List.map_set]
theorem made_int (n : Nat) : madeCells #[.int .i64 0] n = flat intR (List.replicate n 0) := by
  rw [flat_int]
  apply Array.ext
  · simp [madeCells]
  · intro i h1 h2
    simp [madeCells, Nat.mod_one]

/-- What is alike up to k, and k all: alike. -/
theorem alike_all {α : Type} {ys zs : List α} {k : Nat} (hl : ys.length = zs.length) (h : ∀ j, j < k → ys[j]? = zs[j]?) (hk : zs.length ≤ k) : ys = zs := by
  apply List.ext_getElem?
  intro i
  by_cases hi : i < k
  · exact h i hi
  · rw [List.getElem?_eq_none (by omega), List.getElem?_eq_none (by omega)]
theorem alike_next {α : Type} {ys zs : List α} {k : Nat} (hk : k < zs.length) (hl : ys.length = zs.length) (h : ∀ j, j < k → ys[j]? = zs[j]?) : ∀ j, j < k + 1 → (ys.set k zs[k])[j]? = zs[j]? := by
  intro j hj
  by_cases hjk : j = k
  · subst hjk
    rw [List.getElem?_set_self (by omega), List.getElem?_eq_getElem hk]
  · rw [List.getElem?_set_ne (by omega)]
    exact h j (by omega)

/-- What the copy gives. -/
def Copied {α : Type} (t : TypeId) (R : α → List Value) (zs : List α) (w : World) (e : Ending) (w' : World) : Prop :=
  e = .returned (.slice (some ⟨w.heap.size, 0, none⟩) zs.length zs.length) ∧ w'.heap[w.heap.size]? = some (.cells (flat R zs) t (0, 0)) ∧ Below w.heap.size w w'

theorem infoInt : (Tryd.prog.info? 3).map (fun i => (i.zero, i.size, i.bytes)) = some (some (.int .i64 0), 1, 8) := by kernel_rfl

theorem make_int (w : World) (n : Nat) (h : n ≤ 1048576) : (Instr.makeSlice 34 (.int .i64 (n : Int)) (.int .i64 (n : Int))).run Tryd.prog w = .ok (.slice (some ⟨w.heap.size, 0, none⟩) n n) (w.alloc (.cells (flat intR (List.replicate n 0)) 3)) := by
  obtain ⟨i0, hi, hz0, hz1, hz2⟩ := info_parts infoInt
  have := run_make (P := Tryd.prog) (w := w) 34 3 i0 (.int .i64 0) Tryd.underlying34 hi hz0 .i64 .i64 (n : Int) (n : Int) (by omega) (by omega) (by rw [hz2]; omega) (by omega)
  rw [hz1] at this
  rw [← made_int]
  simpa [Value.cells] using this

set_option maxHeartbeats 1000000 in
theorem toIntS_c (v : Value) (zs : List Int) (w : World) (h : IsSl w v 1 intR zs) (hn : zs.length ≤ 1048576) :
    Calls Tryd.prog 65 #[v] w (Copied 3 intR zs w) := by
  obtain ⟨a, cap, rfl, hlc, hm, hr⟩ := h
  have HR := Lib.hid hr
  clear hr
  unfold maxLen at hm
  generalize hnn : zs.length = n at *
  have hmk := make_int w n hn
  go_enter Tryd.func65, Tryd.ntmps65
  go_wp2
  obtain ⟨W, hW, sW, aW, kW⟩ := blocks1 w (.cells (flat intR (List.replicate n 0)) 3)
  rw [← hW]
  clear hW hmk
  go_loopw [4] (fun i wr => ∃ (k : Nat) (ys : List Int), k ≤ n ∧ i = .int .i64 k ∧ ys.length = zs.length ∧ (∀ j, j < k → ys[j]? = zs[j]?) ∧ wr.heap[w.heap.size]? = some (.cells (flat intR ys) 3 (0, 0)) ∧ Below w.heap.size w wr) (fun i _ => n - (intOf i).toNat)
  case atStart => exact ⟨0, List.replicate n 0, Nat.zero_le _, rfl, by simp [hnn], fun j hj => absurd hj (Nat.not_lt_zero j), aW, kW⟩
  case round =>
    obtain ⟨k, ys, hk, rfl, hl, hal, hB, hbel⟩ := hrel
    have hlB := lt_of_block hB
    by_cases hlt : k < n
    · have hkz : k < zs.length := by omega
      obtain ⟨b, off, rfl, hbl, hca⟩ := HR.out k hkz
      have hc0 : wr.cell? ⟨b, off + k, none⟩ = some (.int .i64 zs[k]) := by
        have h := hca 0 (by decide)
        rw [Nat.mul_one, Nat.add_zero] at h
        exact (hbel.cell (p := ⟨b, off + k, none⟩) hbl).trans h
      have hcB : wr.cell? ⟨w.heap.size, k, none⟩ = some (.int .i64 (ys.getD k 0)) := by
        rw [cell_of_block hB, flat_int]
        simp [show k < ys.length by omega]
      have hfB := unfrozen_of_block hB
      have hal' := alike_next hkz (by omega) hal
      have hB' := block_setCell (i := k) hB (.int .i64 zs[k])
      rw [flat_int_set] at hB'
      clear hca hB
      go_wp2
      go_roundw
      case rel => exact ⟨k + 1, ys.set k zs[k], by omega, by go_num, by simpa using hl, hal', hB', Below.setCell hbel (Nat.le_refl _) _⟩
      case measure => simp [intOf]; omega
    · have e := alike_all hl hal (by omega)
      subst e
      go_wp2
      go_ret
      unfold Copied
      rw [hnn]
      exact ⟨rfl, hB, hbel⟩

theorem five_len (z : Rq) : z.cs.length = 5 := rfl
theorem flat_five_set (zs : List Rq) (i : Nat) (h : i < zs.length) (r : Rq) :
    (((((flat Rq.cs zs).setIfInBounds (i * 5) (.int .i64 r.c)).setIfInBounds (i * 5 + 1) (.int .i64 r.n)).setIfInBounds (i * 5 + 2) (.int .i64 r.o)).setIfInBounds (i * 5 + 3) (.int .i64 r.x)).setIfInBounds (i * 5 + 4) (.int .i64 r.y) = flat Rq.cs (zs.set i r) := by
  unfold flat
  simp only [List.setIfInBounds_toArray]
  congr 1
  induction zs generalizing i with
  | nil => cases h
  | cons z zs ih =>
    cases i with
    | zero => simp [List.flatMap_cons, Rq.cs]
    | succ i =>
      have := ih i (by simpa using h)
      have e : ∀ j, (i + 1) * 5 + j = 5 + (i * 5 + j) := fun j => by omega
      have e0 : (i + 1) * 5 = 5 + i * 5 := by omega
      have ap : ∀ (l : List Value) (m : Nat) (v : Value), (z.cs ++ l).set (5 + m) v = z.cs ++ l.set m v := fun l m v => by
        rw [List.set_append_right _ _ (by rw [five_len]; omega), five_len]
        congr 2
        omega
      simp only [List.flatMap_cons, List.set_cons_succ]
      rw [e 1, e 2, e 3, e 4, e0, ap, ap, ap, ap, ap, this]
theorem made_five (n : Nat) : madeCells #[.int .i64 0, .int .i64 0, .int .i64 0, .int .i64 0, .int .i64 0] (n * 5) = flat Rq.cs (List.replicate n ⟨0, 0, 0, 0, 0⟩) := by
  apply Array.ext
  · rw [flat_size five_len]; simp [madeCells]
  · intro i h1 h2
    have hi : i < n * 5 := by simpa [madeCells] using h1
    have g := flat_get five_len (List.replicate n (⟨0, 0, 0, 0, 0⟩ : Rq)) (i / 5) (by simp; omega) (i % 5) (by omega)
    rw [show i / 5 * 5 + i % 5 = i by omega] at g
    have hm : i % 5 = 0 ∨ i % 5 = 1 ∨ i % 5 = 2 ∨ i % 5 = 3 ∨ i % 5 = 4 := by omega
    rw [Array.getElem?_eq_getElem h2] at g
    apply Option.some.inj
    rw [g]
    simp only [madeCells, Array.getElem_map, Array.getElem_range, List.getElem_replicate]
    rcases hm with h | h | h | h | h <;> (simp [h, Rq.cs])
end Go.Proofs.YtilldpoleiippaaDoor

/-! Contracts of toReqS and toEntS, that copy slices of structs of five integers; condition: at most 2^20 elements. -/
namespace Go.Proofs.YtilldpoleiippaaDoor
open Go.RowKit Go.Joins






set_option maxHeartbeats 400000 in
theorem toEnt_c (c n o x y : Int) (w : World) :
    Calls Tryd.prog 107 #[.agg #[.int .i64 c, .int .i64 n, .int .i64 o, .int .i64 x, .int .i64 y]] w fun e w' => e = .returned (.agg #[.int .i64 c, .int .i64 n, .int .i64 o, .int .i64 x, .int .i64 y]) ∧ Below w.heap.size w w' := by
  go_enter Tryd.func107, Tryd.ntmps107
  go_wp2
  refine bodyPost_ret (v := .agg #[.int .i64 c, .int .i64 n, .int .i64 o, .int .i64 x, .int .i64 y]) (by simp [results, Tryd.results107, go_sem]) rfl ?_
  exact ⟨rfl, (by repeat' (first | with_reducible exact Below.refl _ _ | with_reducible assumption | with_reducible refine Below.alloc ?_ ?_ _ | with_reducible refine Below.drew ?_ | with_reducible refine Below.setCell ?_ ?_ _ | omega | (simp; omega) | (simp; done)))⟩


theorem infoEnt : (Tryd.prog.info? 92).map (fun i => (i.zero, i.size, i.bytes)) = some (some (.agg #[.int .i64 0, .int .i64 0, .int .i64 0, .int .i64 0, .int .i64 0]), 5, 40) := by kernel_rfl

theorem make_Ent (w : World) (n : Nat) (h : n ≤ 1048576) : (Instr.makeSlice 39 (.int .i64 (n : Int)) (.int .i64 (n : Int))).run Tryd.prog w = .ok (.slice (some ⟨w.heap.size, 0, none⟩) n n) (w.alloc (.cells (flat Rq.cs (List.replicate n ⟨0, 0, 0, 0, 0⟩)) 92)) := by
  obtain ⟨i0, hi, hz0, hz1, hz2⟩ := info_parts infoEnt
  have := run_make (P := Tryd.prog) (w := w) 39 92 i0 _ Tryd.underlying39 hi hz0 .i64 .i64 (n : Int) (n : Int) (by omega) (by omega) (by rw [hz2]; omega) (by omega)
  rw [hz1] at this
  rw [← made_five]
  simpa [Value.cells] using this

set_option maxRecDepth 100000 in
set_option maxHeartbeats 2000000 in
theorem toEntS_c (v : Value) (zs : List Rq) (w : World) (h : IsSl w v 5 Rq.cs zs) (hn : zs.length ≤ 1048576) :
    Calls Tryd.prog 64 #[v] w (Copied 92 Rq.cs zs w) := by
  obtain ⟨a, cap, rfl, hlc, hm, hr⟩ := h
  have HR := Lib.hid hr
  clear hr
  unfold maxLen at hm
  generalize hnn : zs.length = n at *
  have hmk := make_Ent w n hn
  go_enter Tryd.func64, Tryd.ntmps64
  go_wp2_with fail
  obtain ⟨W, hW, sW, aW, kW⟩ := blocks1 w (.cells (flat Rq.cs (List.replicate n ⟨0, 0, 0, 0, 0⟩)) 92)
  rw [← hW]
  clear hW hmk
  go_loopw [4] (fun i wr => ∃ (k : Nat) (ys : List Rq), k ≤ n ∧ i = .int .i64 k ∧ ys.length = zs.length ∧ (∀ j, j < k → ys[j]? = zs[j]?) ∧ wr.heap[w.heap.size]? = some (.cells (flat Rq.cs ys) 92 (0, 0)) ∧ Below w.heap.size w wr) (fun i _ => n - (intOf i).toNat)
  case atStart => exact ⟨0, List.replicate n ⟨0, 0, 0, 0, 0⟩, Nat.zero_le _, rfl, by simp [hnn], fun j hj => absurd hj (Nat.not_lt_zero j), aW, kW⟩
  case round =>
    obtain ⟨k, ys, hk, rfl, hl, hal, hB, hbel⟩ := hrel
    have hlB := lt_of_block hB
    by_cases hlt : k < n
    · have hkz : k < zs.length := by omega
      obtain ⟨b, off, rfl, hbl, hca⟩ := HR.out k hkz
      have hc : ∀ j, j < 5 → wr.cell? ⟨b, off + k * 5 + j, none⟩ = zs[k].cs[j]? := fun j hj => (hbel.cell (p := ⟨b, off + k * 5 + j, none⟩) hbl).trans (hca j hj)
      have hal' := alike_next hkz (by omega) hal
      have hset := flat_five_set ys k (by omega) zs[k]
      clear hca
      generalize zs[k] = z at *
      have c0 : wr.cell? ⟨b, off + k * 5, none⟩ = some (.int .i64 z.c) := hc 0 (by decide)
      have c1 : wr.cell? ⟨b, off + k * 5 + 1, none⟩ = some (.int .i64 z.n) := hc 1 (by decide)
      have c2 : wr.cell? ⟨b, off + k * 5 + 2, none⟩ = some (.int .i64 z.o) := hc 2 (by decide)
      have c3 : wr.cell? ⟨b, off + k * 5 + 3, none⟩ = some (.int .i64 z.x) := hc 3 (by decide)
      have c4 : wr.cell? ⟨b, off + k * 5 + 4, none⟩ = some (.int .i64 z.y) := hc 4 (by decide)
      clear hc
      have HB := Lib.hid hB
      have HA := Lib.hid hal'
      clear hB hal hal'
      go_wp2_with fail
      refine (toEnt_c z.c z.n z.o z.x z.y _).mono ?_
      rintro e w1 ⟨rfl, k1⟩
      have hbel1 := below_next hbel k1
      have hB1 := carryB k1 hlB HB.out
      have hky : k < ys.length := by omega
      have hd : ∀ j, j < 5 → w1.cell? ⟨w.heap.size, k * 5 + j, none⟩ = ys[k].cs[j]? := fun j hj => by
        rw [cell_of_block hB1]
        exact flat_get five_len ys k hky j hj
      generalize ys[k] = y at *
      have d0 : w1.cell? ⟨w.heap.size, k * 5, none⟩ = some (.int .i64 y.c) := hd 0 (by decide)
      have d1 : w1.cell? ⟨w.heap.size, k * 5 + 1, none⟩ = some (.int .i64 y.n) := hd 1 (by decide)
      have d2 : w1.cell? ⟨w.heap.size, k * 5 + 2, none⟩ = some (.int .i64 y.o) := hd 2 (by decide)
      have d3 : w1.cell? ⟨w.heap.size, k * 5 + 3, none⟩ = some (.int .i64 y.x) := hd 3 (by decide)
      have d4 : w1.cell? ⟨w.heap.size, k * 5 + 4, none⟩ = some (.int .i64 y.y) := hd 4 (by decide)
      have hf := unfrozen_of_block hB1
      have hB' := block_setCell (i := k * 5 + 4) (block_setCell (i := k * 5 + 3) (block_setCell (i := k * 5 + 2) (block_setCell (i := k * 5 + 1) (block_setCell (i := k * 5) hB1 (.int .i64 z.c)) (.int .i64 z.n)) (.int .i64 z.o)) (.int .i64 z.x)) (.int .i64 z.y)
      rw [hset] at hB'
      have HB' := Lib.hid hB'
      have hle : w.heap.size ≤ w.heap.size := Nat.le_refl _
      clear c0 c1 c2 c3 c4 hd hB' hB1 hset
      go_wp2_with fail
      go_roundw
      case rel => exact ⟨k + 1, ys.set k z, by omega, by go_num, by simpa using hl, HA.out, HB'.out, (by repeat' (first | with_reducible exact Below.refl _ _ | with_reducible assumption | with_reducible refine Below.alloc ?_ ?_ _ | with_reducible refine Below.drew ?_ | with_reducible refine Below.setCell ?_ ?_ _ | omega | (simp; omega) | (simp; done)))⟩
      case measure => simp [intOf]; omega
    · have e := alike_all hl hal (by omega)
      subst e
      go_wp2
      go_ret
      unfold Copied
      rw [hnn]
      exact ⟨rfl, hB, hbel⟩

end Go.Proofs.YtilldpoleiippaaDoor

/-! Contracts of the functions that weigh (szXS) and compare (eqXS) slices of integers and of structs of five; eqXS: of two that are alike; no condition. -/
namespace Go.Proofs.YtilldpoleiippaaDoor
open Go.RowKit Go.Joins

/-- What is left behind n elements; -1: too many. -/
def leftOf (left : Int) (n : Nat) : Int := if left - n < 0 then -1 else left - n
/-- Yes; nothing old has turned. -/
def Yes (w : World) (e : Ending) (w' : World) : Prop := e = .returned (.bool true) ∧ Below w.heap.size w w'

theorem eqFive (c n o x y : Int) : (c == c && n == n && o == o && x == x && y == y) = true := by simp


set_option maxHeartbeats 400000 in
theorem szIntS_c (a : Option Addr) (n cap : Nat) (left : Int) (w : World) (hlc : n ≤ cap) (hm : cap ≤ maxLen) (h0 : 0 ≤ left) (h1 : left ≤ 1048576) :
    Calls Tryd.prog 61 #[.slice a n cap, .int .i64 left] w fun e w' => e = .returned (.int .i64 (leftOf left n)) ∧ w = w' := by
  unfold maxLen at hm
  by_cases hlt : left - n < 0
  · go_enter Tryd.func61, Tryd.ntmps61
    go_wp2
    go_ret
    exact ⟨ret_int (by unfold leftOf; rw [if_pos hlt]), rfl⟩
  · go_enter Tryd.func61, Tryd.ntmps61
    go_wp2
    go_ret
    exact ⟨ret_int (by unfold leftOf; rw [if_neg (by omega)]), rfl⟩

set_option maxRecDepth 100000 in
set_option maxHeartbeats 1000000 in
theorem eqIntS_c (va vb : Value) (zs : List Int) (w : World) (ha : IsSl w va 1 intR zs) (hb : IsSl w vb 1 intR zs) :
    Calls Tryd.prog 69 #[va, vb] w (Yes w) := by
  obtain ⟨a, cap, rfl, hlc, hm, hra⟩ := ha
  obtain ⟨b, cap', rfl, hlc', hm', hrb⟩ := hb
  have HA := Lib.hid hra
  have HB := Lib.hid hrb
  clear hra hrb
  unfold maxLen at hm hm'
  generalize hnn : zs.length = n at *
  go_enter Tryd.func69, Tryd.ntmps69
  go_wp2_with fail
  go_loopw [5] (fun i wr => ∃ k : Nat, k ≤ n ∧ i = .int .i64 k ∧ Below w.heap.size w wr) (fun i _ => n - (intOf i).toNat)
  case atStart => exact ⟨0, Nat.zero_le _, rfl, Below.refl _ _⟩
  case round =>
    obtain ⟨k, hk, rfl, hbel⟩ := hrel
    by_cases hlt : k < n
    · have hkz : k < zs.length := by omega
      have hk1 : (k : Int) < (n : Int) := by omega
      have hk0 : (0 : Int) ≤ (k : Int) := by omega
      obtain ⟨b0, o0, rfl, hl0, hc0⟩ := HA.out k hkz
      obtain ⟨b1, o1, rfl, hl1, hc1⟩ := HB.out k hkz
      have c0 : wr.cell? ⟨b0, o0 + k, none⟩ = some (.int .i64 zs[k]) := by
        have h := (hbel.cell (p := ⟨b0, _, none⟩) hl0).trans (hc0 0 (by decide))
        rwa [Nat.mul_one, Nat.add_zero] at h
      have d0 : wr.cell? ⟨b1, o1 + k, none⟩ = some (.int .i64 zs[k]) := by
        have h := (hbel.cell (p := ⟨b1, _, none⟩) hl1).trans (hc1 0 (by decide))
        rwa [Nat.mul_one, Nat.add_zero] at h
      clear hc0 hc1
      generalize zs[k] = z at *
      go_wp2_with fail
      go_region_with fail
      all_goals
        have hbel1 := Below.drew hbel
        clear hbel
        go_wp2_with fail
        refine ⟨⟨k + 1, by omega, by go_num, hbel1⟩, ?_⟩
        simp [intOf]; omega
    · go_wp2_with fail
      go_ret
      exact ⟨rfl, hbel⟩


set_option maxHeartbeats 400000 in
theorem eqReq_self (c n o x y : Int) (w : World) :
    Calls Tryd.prog 28 #[.agg #[.int .i64 c, .int .i64 n, .int .i64 o, .int .i64 x, .int .i64 y], .agg #[.int .i64 c, .int .i64 n, .int .i64 o, .int .i64 x, .int .i64 y]] w (Yes w) := by
  go_enter Tryd.func28, Tryd.ntmps28
  go_wp2
  go_ret
  exact ⟨rfl, (by repeat' (first | with_reducible exact Below.refl _ _ | with_reducible assumption | with_reducible refine Below.alloc ?_ ?_ _ | with_reducible refine Below.drew ?_ | with_reducible refine Below.setCell ?_ ?_ _ | omega | (simp; omega) | (simp; done)))⟩

set_option maxHeartbeats 400000 in
theorem szEntS_c (a : Option Addr) (n cap : Nat) (left : Int) (w : World) (hlc : n ≤ cap) (hm : cap ≤ maxLen) (h0 : 0 ≤ left) (h1 : left ≤ 1048576) :
    Calls Tryd.prog 60 #[.slice a n cap, .int .i64 left] w fun e w' => e = .returned (.int .i64 (leftOf left n)) ∧ w = w' := by
  unfold maxLen at hm
  by_cases hlt : left - n < 0
  · go_enter Tryd.func60, Tryd.ntmps60
    go_wp2
    go_ret
    exact ⟨ret_int (by unfold leftOf; rw [if_pos hlt]), rfl⟩
  · go_enter Tryd.func60, Tryd.ntmps60
    go_wp2
    go_ret
    exact ⟨ret_int (by unfold leftOf; rw [if_neg (by omega)]), rfl⟩

set_option maxHeartbeats 400000 in
theorem eqEnt_self (c n o x y : Int) (w : World) :
    Calls Tryd.prog 109 #[.agg #[.int .i64 c, .int .i64 n, .int .i64 o, .int .i64 x, .int .i64 y], .agg #[.int .i64 c, .int .i64 n, .int .i64 o, .int .i64 x, .int .i64 y]] w (Yes w) := by
  go_enter Tryd.func109, Tryd.ntmps109
  go_wp2
  go_ret
  exact ⟨rfl, (by repeat' (first | with_reducible exact Below.refl _ _ | with_reducible assumption | with_reducible refine Below.alloc ?_ ?_ _ | with_reducible refine Below.drew ?_ | with_reducible refine Below.setCell ?_ ?_ _ | omega | (simp; omega) | (simp; done)))⟩

set_option maxRecDepth 100000 in
set_option maxHeartbeats 1000000 in
theorem eqEntS_c (va vb : Value) (zs : List Rq) (w : World) (ha : IsSl w va 5 Rq.cs zs) (hb : IsSl w vb 5 Rq.cs zs) :
    Calls Tryd.prog 68 #[va, vb] w (Yes w) := by
  obtain ⟨a, cap, rfl, hlc, hm, hra⟩ := ha
  obtain ⟨b, cap', rfl, hlc', hm', hrb⟩ := hb
  have HA := Lib.hid hra
  have HB := Lib.hid hrb
  clear hra hrb
  unfold maxLen at hm hm'
  generalize hnn : zs.length = n at *
  go_enter Tryd.func68, Tryd.ntmps68
  go_wp2_with fail
  go_loopw [5] (fun i wr => ∃ k : Nat, k ≤ n ∧ i = .int .i64 k ∧ Below w.heap.size w wr) (fun i _ => n - (intOf i).toNat)
  case atStart => exact ⟨0, Nat.zero_le _, rfl, Below.refl _ _⟩
  case round =>
    obtain ⟨k, hk, rfl, hbel⟩ := hrel
    by_cases hlt : k < n
    · have hkz : k < zs.length := by omega
      have hk1 : (k : Int) < (n : Int) := by omega
      have hk0 : (0 : Int) ≤ (k : Int) := by omega
      obtain ⟨b0, o0, rfl, hl0, hc0⟩ := HA.out k hkz
      obtain ⟨b1, o1, rfl, hl1, hc1⟩ := HB.out k hkz
      have c0 : wr.cell? ⟨b0, o0 + k * 5, none⟩ = some (.int .i64 zs[k].c) := (hbel.cell (p := ⟨b0, _, none⟩) hl0).trans (hc0 0 (by decide))
      have c1 : wr.cell? ⟨b0, o0 + k * 5 + 1, none⟩ = some (.int .i64 zs[k].n) := (hbel.cell (p := ⟨b0, _, none⟩) hl0).trans (hc0 1 (by decide))
      have c2 : wr.cell? ⟨b0, o0 + k * 5 + 2, none⟩ = some (.int .i64 zs[k].o) := (hbel.cell (p := ⟨b0, _, none⟩) hl0).trans (hc0 2 (by decide))
      have c3 : wr.cell? ⟨b0, o0 + k * 5 + 3, none⟩ = some (.int .i64 zs[k].x) := (hbel.cell (p := ⟨b0, _, none⟩) hl0).trans (hc0 3 (by decide))
      have c4 : wr.cell? ⟨b0, o0 + k * 5 + 4, none⟩ = some (.int .i64 zs[k].y) := (hbel.cell (p := ⟨b0, _, none⟩) hl0).trans (hc0 4 (by decide))
      have d0 : wr.cell? ⟨b1, o1 + k * 5, none⟩ = some (.int .i64 zs[k].c) := (hbel.cell (p := ⟨b1, _, none⟩) hl1).trans (hc1 0 (by decide))
      have d1 : wr.cell? ⟨b1, o1 + k * 5 + 1, none⟩ = some (.int .i64 zs[k].n) := (hbel.cell (p := ⟨b1, _, none⟩) hl1).trans (hc1 1 (by decide))
      have d2 : wr.cell? ⟨b1, o1 + k * 5 + 2, none⟩ = some (.int .i64 zs[k].o) := (hbel.cell (p := ⟨b1, _, none⟩) hl1).trans (hc1 2 (by decide))
      have d3 : wr.cell? ⟨b1, o1 + k * 5 + 3, none⟩ = some (.int .i64 zs[k].x) := (hbel.cell (p := ⟨b1, _, none⟩) hl1).trans (hc1 3 (by decide))
      have d4 : wr.cell? ⟨b1, o1 + k * 5 + 4, none⟩ = some (.int .i64 zs[k].y) := (hbel.cell (p := ⟨b1, _, none⟩) hl1).trans (hc1 4 (by decide))
      clear hc0 hc1
      generalize zs[k] = z at *
      go_wp2_with fail
      go_region_with (go_at_call 109; refine (eqEnt_self _ _ _ _ _ _).mono ?_; rintro e w1 ⟨rfl, k1⟩)
      all_goals
        have hbel1 := below_next hbel (below_next (Below.drew (Below.refl _ _)) k1)
        clear k1 hbel
        go_wp2_with fail
        refine ⟨⟨k + 1, by omega, by go_num, by first | exact hbel1 | exact hbel1.drew⟩, ?_⟩
        simp [intOf]; omega
    · go_wp2_with fail
      go_ret
      exact ⟨rfl, hbel⟩

end Go.Proofs.YtilldpoleiippaaDoor

/-! The checksum as a function on lists of bytes, and that one turned byte turns it: plain arithmetic, no program; no condition. -/
namespace Go.Proofs.YtilldpoleiippaaDoor
open Go.RowKit

def crcStep (c : Nat) : Nat := if c % 2 = 1 then (c / 2) ^^^ 3988292384 else c / 2
def crcRun : Nat → Nat → Nat
  | 0, c => c
  | n + 1, c => crcStep (crcRun n c)
def crcFold (l : List UInt8) (c : Nat) : Nat := l.foldl (fun c b => crcRun 8 (c ^^^ b.toNat)) c
def crcOf (l : List UInt8) : Nat := crcFold l 4294967295 ^^^ 4294967295

theorem crcStep_two (c : Nat) : (c % 2 = 1 ∧ crcStep c = (c / 2) ^^^ 3988292384) ∨ (c % 2 = 0 ∧ crcStep c = c / 2) := by
  unfold crcStep
  split
  · exact .inl ⟨‹_›, rfl⟩
  · exact .inr ⟨by omega, rfl⟩
theorem crcStep_lt {c : Nat} (h : c < 2 ^ 32) : crcStep c < 2 ^ 32 := by
  unfold crcStep
  split
  · exact Nat.xor_lt_two_pow (by omega) (by decide)
  · omega
theorem crcRun_lt {n c : Nat} (h : c < 2 ^ 32) : crcRun n c < 2 ^ 32 := by
  induction n with
  | zero => exact h
  | succ n ih => exact crcStep_lt ih
theorem byte_lt {c : Nat} (b : UInt8) (h : c < 2 ^ 32) : c ^^^ b.toNat < 2 ^ 32 := Nat.xor_lt_two_pow h (by have := b.toNat_lt; omega)
theorem crcFold_lt (l : List UInt8) {c : Nat} (h : c < 2 ^ 32) : crcFold l c < 2 ^ 32 := by
  induction l generalizing c with
  | nil => exact h
  | cons b l ih => exact ih (crcRun_lt (byte_lt b h))
theorem crcFold_snoc (l : List UInt8) (b : UInt8) (c : Nat) : crcFold (l ++ [b]) c = crcRun 8 (crcFold l c ^^^ b.toNat) := by
  unfold crcFold; rw [List.foldl_append]; rfl
theorem crcOf_lt (l : List UInt8) : crcOf l < 2 ^ 32 := Nat.xor_lt_two_pow (crcFold_lt l (by decide)) (by decide)

theorem xor_cancel {a b p : Nat} (h : a ^^^ p = b ^^^ p) : a = b := by
  have := congrArg (· ^^^ p) h
  simpa [Nat.xor_assoc] using this
theorem xor_cancel_left {a b p : Nat} (h : p ^^^ a = p ^^^ b) : a = b := by
  rw [Nat.xor_comm p a, Nat.xor_comm p b] at h; exact xor_cancel h
theorem top_parts {a b : Nat} (ha : a < 2 ^ 31) (hb : b < 2 ^ 31) : a ^^^ 3988292384 ≠ b := by
  intro h
  have := congrArg (fun n => n.testBit 31) h
  simp only [Nat.testBit_xor] at this
  rw [Nat.testBit_lt_two_pow ha, Nat.testBit_lt_two_pow hb] at this
  revert this
  decide
theorem crcStep_inj {c d : Nat} (hc : c < 2 ^ 32) (hd : d < 2 ^ 32) (h : crcStep c = crcStep d) : c = d := by
  unfold crcStep at h
  split at h <;> split at h
  · have := xor_cancel h; omega
  · exact absurd h (top_parts (by omega) (by omega))
  · exact absurd h.symm (top_parts (by omega) (by omega))
  · omega
theorem crcRun_inj {n c d : Nat} (hc : c < 2 ^ 32) (hd : d < 2 ^ 32) (h : crcRun n c = crcRun n d) : c = d := by
  induction n with
  | zero => exact h
  | succ n ih => exact ih (crcStep_inj (crcRun_lt hc) (crcRun_lt hd) h)
theorem crcFold_inj (l : List UInt8) {c d : Nat} (hc : c < 2 ^ 32) (hd : d < 2 ^ 32) (h : crcFold l c = crcFold l d) : c = d := by
  induction l generalizing c d with
  | nil => exact h
  | cons b l ih => exact xor_cancel (crcRun_inj (byte_lt b hc) (byte_lt b hd) (ih (crcRun_lt (byte_lt b hc)) (crcRun_lt (byte_lt b hd)) h))
/-- One byte other: another sum. -/
theorem crcOf_flip (p q : List UInt8) {b b' : UInt8} (hne : b ≠ b') : crcOf (p ++ b :: q) ≠ crcOf (p ++ b' :: q) := by
  intro h
  have h1 := xor_cancel h
  have e : ∀ x : UInt8, crcFold (p ++ x :: q) 4294967295 = crcFold q (crcRun 8 (crcFold p 4294967295 ^^^ x.toNat)) := fun x => by
    unfold crcFold; rw [List.foldl_append]; rfl
  have hp := crcFold_lt p (c := 4294967295) (by decide)
  rw [e, e] at h1
  have h2 := crcFold_inj q (crcRun_lt (byte_lt b hp)) (crcRun_lt (byte_lt b' hp)) h1
  have h3 := crcRun_inj (byte_lt b hp) (byte_lt b' hp) h2
  exact hne (UInt8.toNat_inj.1 (xor_cancel_left h3))

theorem i64_xor_nat (a b : Nat) (ha : a < 9223372036854775808) (hb : b < 9223372036854775808) : bits .xor .i64 (a : Int) (b : Int) = ((a ^^^ b : Nat) : Int) := by
  have hx : a ^^^ b < 2 ^ 63 := Nat.xor_lt_two_pow (by omega) (by omega)
  show IntKind.i64.wrap ((BitVec.ofInt 64 (a : Int) ^^^ BitVec.ofInt 64 (b : Int)).toNat : Int) = _
  rw [BitVec.toNat_xor, ofInt_u64 a (by omega), ofInt_u64 b (by omega)]
  simp only [IntKind.wrap, IntKind.bits, IntKind.signed]
  simp
  omega
end Go.Proofs.YtilldpoleiippaaDoor

/-! '==' and '!=' between two requests, as one test; no condition. -/
namespace Go.Proofs.YtilldpoleiippaaDoor
open Go.RowKit

def eqR (c n o x y c' n' o' x' y' : Int) : Bool := c == c' && n == n' && o == o' && x == x' && y == y'

theorem Rq.eq_of {r s : Rq} (h1 : r.c = s.c) (h2 : r.n = s.n) (h3 : r.o = s.o) (h4 : r.x = s.x) (h5 : r.y = s.y) : r = s := by
  obtain ⟨c, n, o, x, y⟩ := r
  obtain ⟨c', n', o', x', y'⟩ := s
  simp only at h1 h2 h3 h4 h5
  subst h1 h2 h3 h4 h5
  rfl
theorem eqR_iff (r s : Rq) : eqR r.c r.n r.o r.x r.y s.c s.n s.o s.x s.y = true ↔ r = s := by
  unfold eqR
  constructor
  · intro h
    simp only [Bool.and_eq_true, beq_iff_eq] at h
    obtain ⟨⟨⟨⟨h1, h2⟩, h3⟩, h4⟩, h5⟩ := h
    exact Rq.eq_of h1 h2 h3 h4 h5
  · rintro rfl
    simp
theorem eqR_refl (c n o x y : Int) : eqR c n o x y c n o x y = true := by simp [eqR]
theorem eqR_ne {r s : Rq} (h : r ≠ s) : eqR r.c r.n r.o r.x r.y s.c s.n s.o s.x s.y = false := by
  rw [← Bool.not_eq_true, eqR_iff]; exact h
theorem eqR_comm (c n o x y c' n' o' x' y' : Int) : eqR c n o x y c' n' o' x' y' = eqR c' n' o' x' y' c n o x y := by
  unfold eqR
  rw [Bool.eq_iff_iff]
  simp only [Bool.and_eq_true, beq_iff_eq]
  constructor <;> (rintro ⟨⟨⟨⟨h1, h2⟩, h3⟩, h4⟩, h5⟩; exact ⟨⟨⟨⟨h1.symm, h2.symm⟩, h3.symm⟩, h4.symm⟩, h5.symm⟩)

theorem eql_rq (w : World) (c n o x y c' n' o' x' y' : Int) : (binOp .eql 46 (.agg #[.int .i64 c, .int .i64 n, .int .i64 o, .int .i64 x, .int .i64 y]) (.agg #[.int .i64 c', .int .i64 n', .int .i64 o', .int .i64 x', .int .i64 y'])).run Tryd.prog w = .ok (.bool (eqR c n o x y c' n' o' x' y')) w := by
  go_simp
  by_cases h1 : c = c' <;> by_cases h2 : n = n' <;> by_cases h3 : o = o' <;> by_cases h4 : x = x' <;> by_cases h5 : y = y' <;> simp [eqR, h1, h2, h3, h4, h5]
theorem neq_rq (w : World) (c n o x y c' n' o' x' y' : Int) : (binOp .neq 46 (.agg #[.int .i64 c, .int .i64 n, .int .i64 o, .int .i64 x, .int .i64 y]) (.agg #[.int .i64 c', .int .i64 n', .int .i64 o', .int .i64 x', .int .i64 y'])).run Tryd.prog w = .ok (.bool (!eqR c n o x y c' n' o' x' y')) w := by
  go_simp
  by_cases h1 : c = c' <;> by_cases h2 : n = n' <;> by_cases h3 : o = o' <;> by_cases h4 : x = x' <;> by_cases h5 : y = y' <;> simp [eqR, h1, h2, h3, h4, h5]
end Go.Proofs.YtilldpoleiippaaDoor

/-! Contracts of l1Dec (decimals), l1Words, l1None, l1Put and the reference's ReqPut; condition: 64-bit numbers. -/
namespace Go.Proofs.YtilldpoleiippaaDoor
open Go.RowKit Go.Joins

theorem str_append (l m : List UInt8) : (⟨l.toArray⟩ : ByteArray) ++ ⟨m.toArray⟩ = ⟨(l ++ m).toArray⟩ := by
  apply ByteArray.ext
  simp
theorem ret_str {a b : ByteArray} (h : a = b) : Ending.returned (.string a) = .returned (.string b) := by rw [h]
theorem dec_snoc (u : Nat) (h : 10 ≤ u) : (⟨(Lib.decDigits (u / 10)).toArray⟩ : ByteArray) ++ ⟨#[48 + UInt8.ofNat (u % 10)]⟩ = ⟨(Lib.decDigits u).toArray⟩ := by
  have h1 : Lib.decDigits u = Lib.decDigits (u / 10) ++ [UInt8.ofNat (48 + u % 10)] := by rw [Lib.decDigits, dif_neg (by omega)]
  rw [h1, ← str_append]
  congr 3
  simp

theorem conv1 (b : Nat) (x : Int) (W : World) (h : W.cell? ⟨b, 0, none⟩ = some (.int .u8 x)) : (convert 28 9 (.slice (some ⟨b, 0, none⟩) 1 1)).run Tryd.prog W = .ok (.string ⟨#[UInt8.ofNat x.toNat]⟩) W := by
  have hc : ∀ i, i < 1 → W.cell? ⟨b, 0 + i, none⟩ = some (.int .u8 (([x] : List Int).getD i 0)) := by
    intro i hi
    obtain rfl : i = 0 := by omega
    exact h
  exact run_convert_bytes_arg (P := Tryd.prog) W 28 5 Tryd.underlying28 Tryd.underlying5 b 0 1 1 [x] rfl hc 9 Tryd.underlying9

set_option maxRecDepth 100000 in
set_option maxHeartbeats 400000 in
theorem decDigit (u : Nat) (w : World) (h10 : u < 10) :
    Calls Tryd.prog 91 #[.int .i64 u] w fun e w' => e = .returned (.string ⟨(Lib.decDigits u).toArray⟩) ∧ Below w.heap.size w w' := by
  have hconv := conv1 w.heap.size (48 + u)
  go_enter Tryd.func91, Tryd.ntmps91
  go_wp2_with fail
  go_ret
  refine ⟨?_, (by repeat' (first | with_reducible exact Below.refl _ _ | with_reducible assumption | with_reducible refine Below.alloc ?_ ?_ _ | with_reducible refine Below.drew ?_ | with_reducible refine Below.setCell ?_ ?_ _ | omega | (simp; omega) | (simp; done)))⟩
  have h1 : Lib.decDigits u = [UInt8.ofNat (48 + u)] := by rw [Lib.decDigits, dif_pos h10]
  rw [h1]
  rfl

set_option maxRecDepth 100000 in
set_option maxHeartbeats 400000 in
theorem decStep (u : Nat) (w : World) (h10 : 10 ≤ u) (hb : u ≤ 9223372036854775807) (hd : ∀ W : World, Calls Tryd.prog 91 #[.int .i64 ((u : Int) / 10)] W fun e w' => e = .returned (.string ⟨(Lib.decDigits (u / 10)).toArray⟩) ∧ Below W.heap.size W w') :
    Calls Tryd.prog 91 #[.int .i64 u] w fun e w' => e = .returned (.string ⟨(Lib.decDigits u).toArray⟩) ∧ Below w.heap.size w w' := by
  have HD := Lib.hid hd
  have D1 : (u : Int).tdiv 10 = (u : Int) / 10 := Int.tdiv_eq_ediv_of_nonneg (by omega)
  have M1 : (u : Int).tmod 10 = (u : Int) % 10 := Int.tmod_eq_emod_of_nonneg (by omega)
  have W1 : IntKind.i64.wrap ((u : Int) / 10) = (u : Int) / 10 := IntWalk.i64_in _ ⟨by omega, by omega⟩
  have W2 : IntKind.i64.wrap (48 + (u : Int) % 10) = 48 + (u : Int) % 10 := IntWalk.i64_in _ ⟨by omega, by omega⟩
  have W3 : IntKind.u8.wrap (48 + (u : Int) % 10) = 48 + (u : Int) % 10 := IntWalk.u8_in _ ⟨by omega, by omega⟩
  have hconv := fun b W => conv1 b (48 + (u : Int) % 10) W
  have hlen : (Lib.decDigits (u / 10)).length ≤ 20 := by rw [Lib.decDigits_length]; exact Lib.nDigits_le20 _ (by omega)
  clear hd hb
  go_enter Tryd.func91, Tryd.ntmps91
  go_wp2_with fail
  go_region_with ((go_at_call 91; refine (HD.out _).mono ?_; rintro e w1 ⟨rfl, k1⟩; have q1 := bcell k1))
  all_goals
    go_wp2_with fail
    go_ret
    refine ⟨ret_str (dec_snoc u h10), ?_⟩
    have z1 : w.heap.size ≤ w1.heap.size := by have z := k1.size; simp at z; omega
  all_goals first
    | (with_reducible refine below_next ?_ k1; exact (by repeat' (first | with_reducible exact Below.refl _ _ | with_reducible assumption | with_reducible refine Below.alloc ?_ ?_ _ | with_reducible refine Below.drew ?_ | with_reducible refine Below.setCell ?_ ?_ _ | omega | (simp; omega) | (simp; done))))
    | (with_reducible refine Below.alloc (below_next ?_ k1) ?_ _ <;> exact (by repeat' (first | with_reducible exact Below.refl _ _ | with_reducible assumption | with_reducible refine Below.alloc ?_ ?_ _ | with_reducible refine Below.drew ?_ | with_reducible refine Below.setCell ?_ ?_ _ | omega | (simp; omega) | (simp; done))))

theorem decPos (k : Nat) : ∀ (u : Nat) (w : World), u ≤ k → u ≤ 9223372036854775807 →
    Calls Tryd.prog 91 #[.int .i64 u] w fun e w' => e = .returned (.string ⟨(Lib.decDigits u).toArray⟩) ∧ Below w.heap.size w w' := by
  induction k with
  | zero => exact fun u w hu _ => decDigit u w (by omega)
  | succ k ih =>
    intro u w hu hb
    by_cases h10 : u < 10
    · exact decDigit u w h10
    · exact decStep u w (by omega) hb fun W => ih (u / 10) W (by omega) (by omega)
end Go.Proofs.YtilldpoleiippaaDoor

/-! Contracts of l1Words, l1Put and the reference's ReqPut; condition: 64-bit numbers. -/
namespace Go.Proofs.YtilldpoleiippaaDoor
open Go.RowKit Go.Joins

theorem wpAnyH_weaken {P : Program} {md : Region.Mode} {ops : Array Oper} {Q : Exit → Act → World → Prop} {S S' : World → Prop} (hs : ∀ w, S' w → S w) :
    ∀ (fuel : Nat) (listed : Array Bool) (a : Act) (w : World), wpAnyH P md ops Q S' fuel listed a w → wpAnyH P md ops Q S fuel listed a w
  | 0, _, _, _, h => h
  | fuel + 1, _, _, _, h => ⟨h.1, fun i hi => wpOp_mono (fun a' w' h' => ⟨hs w' h'.1, wpAnyH_weaken hs fuel _ a' w' h'.2⟩) (h.2 i hi)⟩

set_option maxRecDepth 100000 in
set_option maxHeartbeats 400000 in
theorem decNeg (u : Nat) (w : World) (h1 : 1 ≤ u) (h2 : u ≤ 4611686018427387904) :
    Calls Tryd.prog 91 #[.int .i64 (-(u : Int))] w fun e w' => e = .returned (.string ⟨(45 :: Lib.decDigits u).toArray⟩) ∧ Below w.heap.size w w' := by
  have hlen : (Lib.decDigits u).length ≤ 20 := by rw [Lib.decDigits_length]; exact Lib.nDigits_le20 _ (by omega)
  have HD := Lib.hid (fun W => decPos u u W (Nat.le_refl _) (by omega))
  go_enter Tryd.func91, Tryd.ntmps91
  go_wp2_with fail
  refine (HD.out _).mono ?_
  rintro e w1 ⟨rfl, k1⟩
  go_wp2_with fail
  go_ret
  refine ⟨ret_str ?_, k1⟩
  apply ByteArray.ext
  simp

theorem l1Dec_c (n : Int) (w : World) (h0 : -4611686018427387904 ≤ n) (h1 : n ≤ 4611686018427387904) :
    Calls Tryd.prog 91 #[.int .i64 n] w fun e w' => e = .returned (.string ⟨(Lib.itoa n).toArray⟩) ∧ Below w.heap.size w w' := by
  by_cases hn : 0 ≤ n
  · obtain ⟨u, rfl⟩ := Int.eq_ofNat_of_zero_le hn
    have e : Lib.itoa (u : Int) = Lib.decDigits u := by unfold Lib.itoa; rw [if_neg (by omega)]; simp
    rw [e]
    exact decPos u u w (Nat.le_refl _) (by omega)
  · obtain ⟨u, hu⟩ := Int.eq_ofNat_of_zero_le (show 0 ≤ -n by omega)
    obtain rfl : n = -(u : Int) := by omega
    have e : Lib.itoa (-(u : Int)) = 45 :: Lib.decDigits u := by unfold Lib.itoa; rw [if_pos (by omega)]; simp
    rw [e]
    exact decNeg u w (by omega) (by omega)

theorem itoa_len (n : Int) (h0 : -4611686018427387904 ≤ n) (h1 : n ≤ 4611686018427387904) : (Lib.itoa n).length ≤ 21 := Lib.itoa_length_le n (by omega) (by omega)

/-- The words of the operations. -/
def words : List (List UInt8) := [[], [106, 111, 105, 110], [109, 111, 118, 101], [116, 97, 107, 101], [104, 105, 116], [103, 105, 118, 101]]
def wordsBlock : Obj := .cells #[.string ⟨#[]⟩, .string ⟨#[106, 111, 105, 110]⟩, .string ⟨#[109, 111, 118, 101]⟩, .string ⟨#[116, 97, 107, 101]⟩, .string ⟨#[104, 105, 116]⟩, .string ⟨#[103, 105, 118, 101]⟩] 9 (0, 0)
set_option maxHeartbeats 400000 in
theorem l1Words_c (w : World) : Calls Tryd.prog 71 #[] w fun e w' => e = .returned (.slice (some ⟨w.heap.size, 0, none⟩) 6 6) ∧ w'.heap[w.heap.size]? = some wordsBlock ∧ Below w.heap.size w w' := by
  go_enter Tryd.func71, Tryd.ntmps71
  go_wp2
  go_ret
  exact ⟨rfl, heap_alloc_new w _, (by repeat' (first | with_reducible exact Below.refl _ _ | with_reducible assumption | with_reducible refine Below.alloc ?_ ?_ _ | with_reducible refine Below.drew ?_ | with_reducible refine Below.setCell ?_ ?_ _ | omega | (simp; omega) | (simp; done)))⟩
/-- What is written of a request. -/
def putL (c n o x y : Int) : List UInt8 := Lib.itoa c ++ [32] ++ Lib.itoa n ++ [32] ++ words.getD o.toNat [] ++ [32] ++ Lib.itoa x ++ [32] ++ Lib.itoa y

set_option maxRecDepth 100000 in
set_option maxHeartbeats 1000000 in
theorem l1Put_c (c n o x y : Int) (w : World) (ho0 : 0 ≤ o) (ho1 : o ≤ 5)
    (hc0 : -4611686018427387904 ≤ c) (hc1 : c ≤ 4611686018427387904) (hn0 : -4611686018427387904 ≤ n) (hn1 : n ≤ 4611686018427387904)
    (hx0 : -4611686018427387904 ≤ x) (hx1 : x ≤ 4611686018427387904) (hy0 : -4611686018427387904 ≤ y) (hy1 : y ≤ 4611686018427387904) :
    Calls Tryd.prog 73 #[.agg #[.int .i64 c, .int .i64 n, .int .i64 o, .int .i64 x, .int .i64 y]] w fun e w' => e = .returned (.string ⟨(putL c n o x y).toArray⟩) ∧ Below w.heap.size w w' := by
  have HC := Lib.hid (fun W => l1Dec_c c W hc0 hc1)
  have HN := Lib.hid (fun W => l1Dec_c n W hn0 hn1)
  have HX := Lib.hid (fun W => l1Dec_c x W hx0 hx1)
  have HY := Lib.hid (fun W => l1Dec_c y W hy0 hy1)
  have lc := itoa_len c hc0 hc1
  have ln := itoa_len n hn0 hn1
  have lx := itoa_len x hx0 hx1
  have ly := itoa_len y hy0 hy1
  have HP : Hid (putL c n o x y = Lib.itoa c ++ [32] ++ Lib.itoa n ++ [32] ++ words.getD o.toNat [] ++ [32] ++ Lib.itoa x ++ [32] ++ Lib.itoa y) := rfl
  generalize Lib.itoa c = sc at *
  generalize Lib.itoa n = sn at *
  generalize Lib.itoa x = sx at *
  generalize Lib.itoa y = sy at *
  obtain ⟨k, rfl⟩ := Int.eq_ofNat_of_zero_le ho0
  have hk5 : k ≤ 5 := by omega
  have hk0 : (0 : Int) ≤ (k : Int) := by omega
  have hk6 : (k : Int) < 6 := by omega
  clear hc0 hc1 hn0 hn1 hx0 hx1 hy0 hy1 ho0 ho1
  go_enter Tryd.func73, Tryd.ntmps73
  go_wp2_with fail
  obtain ⟨W, hW, sW, aW, kW⟩ := blocks1 w (.cells #[.int .i64 c, .int .i64 n, .int .i64 k, .int .i64 x, .int .i64 y] 46)
  rw [← hW]
  clear hW
  have hcd := cell_of_block (show W.drew.heap[w.heap.size]? = _ from aW)
  have hl : w.heap.size < W.drew.heap.size := by simp; omega
  refine wp_region_held_drew (S := fun w' => ∀ i, w'.cell? ⟨w.heap.size, i, none⟩ = #[.int .i64 c, .int .i64 n, .int .i64 k, .int .i64 x, .int .i64 y][i]?) (by kernel_rfl) hcd (fun hHeld => ?_)
  clear aW
  refine wpAnyH_take (i := 0) (oi := _) (v := ?_) (by (simp only [List.getElem?_toArray]; rfl)) (by kernel_rfl) (by kernel_rfl) (by kernel_rfl) (by exact fun _ _ _ h => h) (Or.inl ⟨by rfl, ?_⟩) (by assumption) ?_
  rotate_left
  · intro wS hSw
    go_simp
    all_goals first | with_reducible rfl | rw [if_neg (by omega)]
  simp only [Act.put, List.setIfInBounds_toArray, List.set]
  refine wpAnyH_take (i := 1) (oi := _) (v := ?_) (by (simp only [List.getElem?_toArray]; rfl)) (by kernel_rfl) (by kernel_rfl) (by kernel_rfl) (by exact fun _ _ _ h => h) (Or.inl ⟨by rfl, ?_⟩) (by assumption) ?_
  rotate_left
  · intro wS hSw
    go_simp
    all_goals first | with_reducible rfl | rw [if_neg (by omega)]
  simp only [Act.put, List.setIfInBounds_toArray, List.set]
  refine wpAnyH_take (i := 4) (oi := _) (v := ?_) (by (simp only [List.getElem?_toArray]; rfl)) (by kernel_rfl) (by kernel_rfl) (by kernel_rfl) (by exact fun _ _ _ h => h) (Or.inl ⟨by rfl, ?_⟩) (by assumption) ?_
  rotate_left
  · intro wS hSw
    go_simp
    all_goals first | with_reducible rfl | rw [if_neg (by omega)]
  simp only [Act.put, List.setIfInBounds_toArray, List.set]
  refine wpAnyH_take (i := 5) (oi := _) (v := ?_) (by (simp only [List.getElem?_toArray]; rfl)) (by kernel_rfl) (by kernel_rfl) (by kernel_rfl) (by exact fun _ _ _ h => h) (Or.inl ⟨by rfl, ?_⟩) (by assumption) ?_
  rotate_left
  · intro wS hSw
    go_simp
    all_goals first | with_reducible rfl | rw [if_neg (by omega)]
  simp only [Act.put, List.setIfInBounds_toArray, List.set]
  refine wpAnyH_take (i := 10) (oi := _) (v := ?_) (by (simp only [List.getElem?_toArray]; rfl)) (by kernel_rfl) (by kernel_rfl) (by kernel_rfl) (by exact fun _ _ _ h => h) (Or.inl ⟨by rfl, ?_⟩) (by assumption) ?_
  rotate_left
  · intro wS hSw
    go_simp
    all_goals first | with_reducible rfl | rw [if_neg (by omega)]
  simp only [Act.put, List.setIfInBounds_toArray, List.set]
  refine wpAnyH_take (i := 11) (oi := _) (v := ?_) (by (simp only [List.getElem?_toArray]; rfl)) (by kernel_rfl) (by kernel_rfl) (by kernel_rfl) (by exact fun _ _ _ h => h) (Or.inl ⟨by rfl, ?_⟩) (by assumption) ?_
  rotate_left
  · intro wS hSw
    go_simp
    all_goals first | with_reducible rfl | rw [if_neg (by omega)]
  simp only [Act.put, List.setIfInBounds_toArray, List.set]
  refine wpAnyH_take (i := 16) (oi := _) (v := ?_) (by (simp only [List.getElem?_toArray]; rfl)) (by kernel_rfl) (by kernel_rfl) (by kernel_rfl) (by exact fun _ _ _ h => h) (Or.inl ⟨by rfl, ?_⟩) (by assumption) ?_
  rotate_left
  · intro wS hSw
    go_simp
    all_goals first | with_reducible rfl | rw [if_neg (by omega)]
  simp only [Act.put, List.setIfInBounds_toArray, List.set]
  refine wpAnyH_take (i := 17) (oi := _) (v := ?_) (by (simp only [List.getElem?_toArray]; rfl)) (by kernel_rfl) (by kernel_rfl) (by kernel_rfl) (by exact fun _ _ _ h => h) (Or.inl ⟨by rfl, ?_⟩) (by assumption) ?_
  rotate_left
  · intro wS hSw
    go_simp
    all_goals first | with_reducible rfl | rw [if_neg (by omega)]
  simp only [Act.put, List.setIfInBounds_toArray, List.set]
  refine wpAnyH_take (i := 21) (oi := _) (v := ?_) (by (simp only [List.getElem?_toArray]; rfl)) (by kernel_rfl) (by kernel_rfl) (by kernel_rfl) (by exact fun _ _ _ h => h) (Or.inl ⟨by rfl, ?_⟩) (by assumption) ?_
  rotate_left
  · intro wS hSw
    go_simp
    all_goals first | with_reducible rfl | rw [if_neg (by omega)]
  simp only [Act.put, List.setIfInBounds_toArray, List.set]
  refine wpAnyH_take (i := 22) (oi := _) (v := ?_) (by (simp only [List.getElem?_toArray]; rfl)) (by kernel_rfl) (by kernel_rfl) (by kernel_rfl) (by exact fun _ _ _ h => h) (Or.inl ⟨by rfl, ?_⟩) (by assumption) ?_
  rotate_left
  · intro wS hSw
    go_simp
    all_goals first | with_reducible rfl | rw [if_neg (by omega)]
  simp only [Act.put, List.setIfInBounds_toArray, List.set]
  refine wpAnyH_ready (rs := [2]) (by kernel_rfl) (by simp) ?_
  refine AllReadyH.cons (o := _) (by (simp only [List.getElem?_toArray]; rfl)) (fun K hK => ?_) AllReadyH.nil
  go_simp
  refine (HC.out _).mono ?_
  rintro e w1 ⟨rfl, k1⟩
  have h1 : ∀ i, w1.cell? ⟨w.heap.size, i, none⟩ = #[.int .i64 c, .int .i64 n, .int .i64 k, .int .i64 x, .int .i64 y][i]? := fun i => ((bcell k1).1 _ i hl).trans (hcd i)
  have l1 : w.heap.size < w1.heap.size := Nat.lt_of_lt_of_le hl k1.size
  have K1 := below_next (below_next kW (Below.drew (Below.refl _ _))) k1
  refine hK.out _ _ h1 (fun hHeld => ?_)
  clear hK K
  try simp only [Act.put, List.setIfInBounds_toArray, List.set]
  refine wpAnyH_take (i := 3) (oi := _) (v := ?_) (by (simp only [List.getElem?_toArray]; rfl)) (by kernel_rfl) (by kernel_rfl) (by kernel_rfl) (by exact fun _ _ _ h => h) (Or.inl ⟨by rfl, ?_⟩) (by assumption) ?_
  rotate_left
  · intro wS hSw
    go_simp
    all_goals first | with_reducible rfl | rw [if_neg (by omega)]
  simp only [Act.put, List.setIfInBounds_toArray, List.set]
  refine wpAnyH_ready (rs := [6]) (by kernel_rfl) (by simp) ?_
  refine AllReadyH.cons (o := _) (by (simp only [List.getElem?_toArray]; rfl)) (fun K hK => ?_) AllReadyH.nil
  go_simp
  refine (HN.out _).mono ?_
  rintro e w2 ⟨rfl, k2⟩
  have h2 : ∀ i, w2.cell? ⟨w.heap.size, i, none⟩ = #[.int .i64 c, .int .i64 n, .int .i64 k, .int .i64 x, .int .i64 y][i]? := fun i => ((bcell k2).1 _ i l1).trans (h1 i)
  have l2 : w.heap.size < w2.heap.size := Nat.lt_of_lt_of_le l1 k2.size
  have K2 := below_next K1 k2
  refine hK.out _ _ h2 (fun hHeld => ?_)
  clear hK K
  try simp only [Act.put, List.setIfInBounds_toArray, List.set]
  clear h1 k1 K1 l1 k2
  refine wpAnyH_take (i := 7) (oi := _) (v := ?_) (by (simp only [List.getElem?_toArray]; rfl)) (by kernel_rfl) (by kernel_rfl) (by kernel_rfl) (by exact fun _ _ _ h => h) (Or.inl ⟨by rfl, ?_⟩) (by assumption) ?_
  rotate_left
  · intro wS hSw
    go_simp
    all_goals first | with_reducible rfl | rw [if_neg (by omega)]
  simp only [Act.put, List.setIfInBounds_toArray, List.set]
  refine wpAnyH_take (i := 8) (oi := _) (v := ?_) (by (simp only [List.getElem?_toArray]; rfl)) (by kernel_rfl) (by kernel_rfl) (by kernel_rfl) (by exact fun _ _ _ h => h) (Or.inl ⟨by rfl, ?_⟩) (by assumption) ?_
  rotate_left
  · intro wS hSw
    go_simp
    all_goals first | with_reducible rfl | rw [if_neg (by omega)]
  simp only [Act.put, List.setIfInBounds_toArray, List.set]
  refine wpAnyH_ready (rs := [9]) (by kernel_rfl) (by simp) ?_
  refine AllReadyH.cons (o := _) (by (simp only [List.getElem?_toArray]; rfl)) (fun K hK => ?_) AllReadyH.nil
  go_simp
  refine (l1Words_c _).mono ?_
  rintro e w3 ⟨rfl, hg, k3⟩
  have h3 : ∀ i, w3.cell? ⟨w.heap.size, i, none⟩ = #[.int .i64 c, .int .i64 n, .int .i64 k, .int .i64 x, .int .i64 y][i]? := fun i => ((bcell k3).1 _ i l2).trans (h2 i)
  have l3 : w2.heap.size < w3.heap.size := lt_of_block hg
  have K3 := below_next K2 k3
  refine hK.out _ _ h3 (fun hHeld => ?_)
  clear hK K
  try simp only [Act.put, List.setIfInBounds_toArray, List.set]
  have hwd : w3.cell? ⟨w2.heap.size, k, none⟩ = some (.string ⟨(words.getD k []).toArray⟩) := by
    rw [cell_of_block hg]
    match k, hk5 with
    | 0, _ => rfl
    | 1, _ => rfl
    | 2, _ => rfl
    | 3, _ => rfl
    | 4, _ => rfl
    | 5, _ => rfl
  refine wpAnyH_weaken (S' := fun w' => w'.cell? ⟨w2.heap.size, k, none⟩ = some (.string ⟨(words.getD k []).toArray⟩) ∧ ∀ i, w'.cell? ⟨w.heap.size, i, none⟩ = #[.int .i64 c, .int .i64 n, .int .i64 k, .int .i64 x, .int .i64 y][i]?) (fun _ h => h.2) _ _ _ _ ?_
  have hHeld := And.intro hwd h3
  clear h2 K2 k3 hg
  have lw : (words.getD k []).length ≤ 4 := by
    match k, hk5 with
    | 0, _ => decide
    | 1, _ => decide
    | 2, _ => decide
    | 3, _ => decide
    | 4, _ => decide
    | 5, _ => decide
  rw [show ((k : Int)).toNat = k from rfl] at HP
  generalize words.getD k [] = sw at *
  refine wpAnyH_take (i := 12) (oi := _) (v := ?_) (by (simp only [List.getElem?_toArray]; rfl)) (by kernel_rfl) (by kernel_rfl) (by kernel_rfl) (by exact fun _ _ _ h => h) (Or.inl ⟨by rfl, ?_⟩) (by assumption) ?_
  rotate_left
  · intro wS hSw
    go_simp
    all_goals first | with_reducible rfl | rw [if_neg (by omega)]
  simp only [Act.put, List.setIfInBounds_toArray, List.set]
  refine wpAnyH_take (i := 13) (oi := _) (v := ?_) (by (simp only [List.getElem?_toArray]; rfl)) (by kernel_rfl) (by kernel_rfl) (by kernel_rfl) (by exact fun _ _ _ h => h) (Or.inl ⟨by rfl, ?_⟩) (by assumption) ?_
  rotate_left
  · intro wS hSw
    go_simp
    all_goals first | with_reducible rfl | rw [if_neg (by omega)]
  simp only [Act.put, List.setIfInBounds_toArray, List.set]
  refine wpAnyH_take (i := 14) (oi := _) (v := ?_) (by (simp only [List.getElem?_toArray]; rfl)) (by kernel_rfl) (by kernel_rfl) (by kernel_rfl) (by exact fun _ _ _ h => h) (Or.inl ⟨by rfl, ?_⟩) (by assumption) ?_
  rotate_left
  · intro wS hSw
    go_simp
    all_goals first | with_reducible rfl | rw [if_neg (by omega)]
  simp only [Act.put, List.setIfInBounds_toArray, List.set]
  refine wpAnyH_take (i := 15) (oi := _) (v := ?_) (by (simp only [List.getElem?_toArray]; rfl)) (by kernel_rfl) (by kernel_rfl) (by kernel_rfl) (by exact fun _ _ _ h => h) (Or.inl ⟨by rfl, ?_⟩) (by assumption) ?_
  rotate_left
  · intro wS hSw
    go_simp
    all_goals first | with_reducible rfl | rw [if_neg (by omega)]
  simp only [Act.put, List.setIfInBounds_toArray, List.set]
  refine wpAnyH_ready (rs := [18]) (by kernel_rfl) (by simp) ?_
  refine AllReadyH.cons (o := _) (by (simp only [List.getElem?_toArray]; rfl)) (fun K hK => ?_) AllReadyH.nil
  go_simp
  refine (HX.out _).mono ?_
  rintro e w4 ⟨rfl, k4⟩
  have h4 : w4.cell? ⟨w2.heap.size, k, none⟩ = some (.string ⟨sw.toArray⟩) ∧ ∀ i, w4.cell? ⟨w.heap.size, i, none⟩ = #[.int .i64 c, .int .i64 n, .int .i64 k, .int .i64 x, .int .i64 y][i]? := ⟨((bcell k4).1 _ _ l3).trans hHeld.1, fun i => ((bcell k4).1 _ i (Nat.lt_trans l2 l3)).trans (hHeld.2 i)⟩
  have l4 : w3.heap.size ≤ w4.heap.size := k4.size
  have K4 := below_next K3 k4
  refine hK.out _ _ h4 (fun hHeld => ?_)
  clear hK K
  try simp only [Act.put, List.setIfInBounds_toArray, List.set]
  clear K3 k4 h3 hwd
  refine wpAnyH_take (i := 19) (oi := _) (v := ?_) (by (simp only [List.getElem?_toArray]; rfl)) (by kernel_rfl) (by kernel_rfl) (by kernel_rfl) (by exact fun _ _ _ h => h) (Or.inl ⟨by rfl, ?_⟩) (by assumption) ?_
  rotate_left
  · intro wS hSw
    go_simp
    all_goals first | with_reducible rfl | rw [if_neg (by omega)]
  simp only [Act.put, List.setIfInBounds_toArray, List.set]
  refine wpAnyH_take (i := 20) (oi := _) (v := ?_) (by (simp only [List.getElem?_toArray]; rfl)) (by kernel_rfl) (by kernel_rfl) (by kernel_rfl) (by exact fun _ _ _ h => h) (Or.inl ⟨by rfl, ?_⟩) (by assumption) ?_
  rotate_left
  · intro wS hSw
    go_simp
    all_goals first | with_reducible rfl | rw [if_neg (by omega)]
  simp only [Act.put, List.setIfInBounds_toArray, List.set]
  refine wpAnyH_ready (rs := [23]) (by kernel_rfl) (by simp) ?_
  refine AllReadyH.cons (o := _) (by (simp only [List.getElem?_toArray]; rfl)) (fun K hK => ?_) AllReadyH.nil
  go_simp
  refine (HY.out _).mono ?_
  rintro e w5 ⟨rfl, k5⟩
  have h5 : w5.cell? ⟨w2.heap.size, k, none⟩ = some (.string ⟨sw.toArray⟩) ∧ ∀ i, w5.cell? ⟨w.heap.size, i, none⟩ = #[.int .i64 c, .int .i64 n, .int .i64 k, .int .i64 x, .int .i64 y][i]? := ⟨((bcell k5).1 _ _ (by omega)).trans h4.1, fun i => ((bcell k5).1 _ i (by omega)).trans (h4.2 i)⟩
  have K5 := below_next K4 k5
  refine hK.out _ _ h5 (fun hHeld => ?_)
  clear hK K
  try simp only [Act.put, List.setIfInBounds_toArray, List.set]
  refine wpAnyH_take (i := 24) (oi := _) (v := ?_) (by (simp only [List.getElem?_toArray]; rfl)) (by kernel_rfl) (by kernel_rfl) (by kernel_rfl) (by exact fun _ _ _ h => h) (Or.inl ⟨by rfl, ?_⟩) (by assumption) ?_
  rotate_left
  · intro wS hSw
    go_simp
    all_goals first | with_reducible rfl | rw [if_neg (by omega)]
  simp only [Act.put, List.setIfInBounds_toArray, List.set]
  refine wpAnyH_take (i := 25) (oi := _) (v := ?_) (by (simp only [List.getElem?_toArray]; rfl)) (by kernel_rfl) (by kernel_rfl) (by kernel_rfl) (by exact fun _ _ _ h => h) (Or.inl ⟨by rfl, ?_⟩) (by assumption) ?_
  rotate_left
  · intro wS hSw
    go_simp
    all_goals first | with_reducible rfl | rw [if_neg (by omega)]
  simp only [Act.put, List.setIfInBounds_toArray, List.set]
  refine wpAnyH_done (by kernel_rfl) ?_ _
  go_wp2_with fail
  go_ret
  refine ⟨ret_str ?_, K5⟩
  rw [HP.out]
  apply ByteArray.ext
  simp
end Go.Proofs.YtilldpoleiippaaDoor

/-! Contracts of okOrNull and allOk, with slices.ContainsFunc and IndexFunc at their closure; no condition. -/
namespace Go.Proofs.YtilldpoleiippaaDoor
open Go.RowKit Go.Joins

attribute [local go_sem ↓] eql_rq neq_rq

/-- An ask that is ok, or none. -/
def goodB (c n o x y : Int) : Bool := eqR c n o x y 0 0 0 0 0 || okB c n o x y
def good (r : Rq) : Bool := goodB r.c r.n r.o r.x r.y

set_option maxHeartbeats 400000 in
theorem okOrNull_c (c n o x y : Int) (w : World) :
    Calls Tryd.prog 58 #[.agg #[.int .i64 c, .int .i64 n, .int .i64 o, .int .i64 x, .int .i64 y]] w fun e w' => e = .returned (.bool (goodB c n o x y)) ∧ Below w.heap.size w w' := by
  cases he : eqR c n o x y 0 0 0 0 0 with
  | true =>
    go_enter Tryd.func58, Tryd.ntmps58
    go_wp2_with fail
    go_ret
    exact ⟨ret_bool (by simp [goodB, he]), (by repeat' (first | with_reducible exact Below.refl _ _ | with_reducible assumption | with_reducible refine Below.alloc ?_ ?_ _ | with_reducible refine Below.drew ?_ | with_reducible refine Below.setCell ?_ ?_ _ | omega | (simp; omega) | (simp; done)))⟩
  | false =>
    go_enter Tryd.func58, Tryd.ntmps58
    go_wp2_with fail
    refine (ReqOk_c c n o x y _).mono ?_
    rintro e w1 ⟨rfl, k1⟩
    go_wp2_with fail
    go_ret
    exact ⟨ret_bool (by simp [goodB, he]), below_next (by repeat' (first | with_reducible exact Below.refl _ _ | with_reducible assumption | with_reducible refine Below.alloc ?_ ?_ _ | with_reducible refine Below.drew ?_ | with_reducible refine Below.setCell ?_ ?_ _ | omega | (simp; omega) | (simp; done))) k1⟩

/-- The place of the first that is not good; -1: all are. -/
def IsFirst (zs : List Rq) (w : World) (e : Ending) (w' : World) : Prop :=
  ∃ m : Int, e = .returned (.int .i64 m) ∧ ((zs.all good = true ∧ m < 0) ∨ (zs.all good = false ∧ 0 ≤ m)) ∧ Below w.heap.size w w'

end Go.Proofs.YtilldpoleiippaaDoor

/-! Contracts of l1None and of the reference's ReqPut; condition: 64-bit numbers far from the ends. -/
namespace Go.Proofs.YtilldpoleiippaaDoor
open Go.RowKit Go.Joins

attribute [local go_sem ↓] eql_rq neq_rq

def noneB (c n o x y : Int) : Bool := eqR c n o x y 0 0 0 0 0

set_option maxHeartbeats 400000 in
theorem l1None_c (c n o x y : Int) (w : World) :
    Calls Tryd.prog 78 #[.agg #[.int .i64 c, .int .i64 n, .int .i64 o, .int .i64 x, .int .i64 y]] w fun e w' => e = .returned (.bool (noneB c n o x y)) ∧ Below w.heap.size w w' := by
  go_enter Tryd.func78, Tryd.ntmps78
  go_wp2
  go_ret
  exact ⟨rfl, (by repeat' (first | with_reducible exact Below.refl _ _ | with_reducible assumption | with_reducible refine Below.alloc ?_ ?_ _ | with_reducible refine Below.drew ?_ | with_reducible refine Below.setCell ?_ ?_ _ | omega | (simp; omega) | (simp; done)))⟩

/-- What the reference's ReqPut gives. -/
def reqPutL (r : Rq) : List UInt8 := if noneB r.c r.n r.o r.x r.y then [110, 111, 110, 101] else if okB r.c r.n r.o r.x r.y then putL r.c r.n r.o r.x r.y else []

theorem okB_op {c n o x y : Int} (h : okB c n o x y = true) : 0 ≤ o ∧ o ≤ 5 ∧ 1 ≤ c ∧ c ≤ 4 ∧ 1 ≤ n ∧ n ≤ 30 ∧ -1 ≤ x ∧ x ≤ 4 ∧ -1 ≤ y ∧ y ≤ 9 := by
  unfold okB at h
  simp only [Bool.and_eq_true, inB_iff] at h
  obtain ⟨⟨hc, hn⟩, h⟩ := h
  split at h
  · simp at h; omega
  · split at h
    · simp [inB] at h; omega
    · split at h
      · simp [inB] at h; omega
      · split at h
        · simp [inB] at h; omega
        · cases h

set_option maxHeartbeats 400000 in
theorem sReqPut_c (c n o x y : Int) (w : World) :
    Calls Tryd.prog 31 #[.agg #[.int .i64 c, .int .i64 n, .int .i64 o, .int .i64 x, .int .i64 y]] w fun e w' => e = .returned (.string ⟨(reqPutL ⟨c, n, o, x, y⟩).toArray⟩) ∧ Below w.heap.size w w' := by
  cases hn : noneB c n o x y with
  | true =>
    go_enter Tryd.func31, Tryd.ntmps31
    go_wp2_with fail
    obtain ⟨W, hW, sW, aW, kW⟩ := blocks1 w (.cells #[.int .i64 c, .int .i64 n, .int .i64 o, .int .i64 x, .int .i64 y] 46)
    rw [← hW]
    clear hW
    have lW : w.heap.size < W.heap.size := by omega
    have hc0 := cell_of_block aW
    refine (l1None_c c n o x y _).mono ?_
    rintro e w1 ⟨rfl, k1⟩
    have hc1 := cell_of_block (carryB k1 lW aW)
    have l1 : w.heap.size < w1.heap.size := Nat.lt_of_lt_of_le lW k1.size
    have K1 := below_next kW k1
    go_wp2_with fail
    go_ret
    refine ⟨ret_str (by simp [reqPutL, hn]), K1⟩
  | false =>
    cases hk : okB c n o x y with
    | false =>
      go_enter Tryd.func31, Tryd.ntmps31
      go_wp2_with fail
      obtain ⟨W, hW, sW, aW, kW⟩ := blocks1 w (.cells #[.int .i64 c, .int .i64 n, .int .i64 o, .int .i64 x, .int .i64 y] 46)
      rw [← hW]
      clear hW
      have lW : w.heap.size < W.heap.size := by omega
      have hc0 := cell_of_block aW
      refine (l1None_c c n o x y _).mono ?_
      rintro e w1 ⟨rfl, k1⟩
      have hc1 := cell_of_block (carryB k1 lW aW)
      have l1 : w.heap.size < w1.heap.size := Nat.lt_of_lt_of_le lW k1.size
      have K1 := below_next kW k1
      go_wp2_with fail
      refine (l1Ok_c c n o x y _).mono ?_
      rintro e w2 ⟨rfl, k2⟩
      have hc2 := cell_of_block (carryB k2 l1 (carryB k1 lW aW))
      have K2 := below_next K1 k2
      go_wp2_with fail
      go_ret
      refine ⟨ret_str (by simp [reqPutL, hn, hk]), K2⟩
    | true =>
      have hB := okB_op hk
      go_enter Tryd.func31, Tryd.ntmps31
      go_wp2_with fail
      obtain ⟨W, hW, sW, aW, kW⟩ := blocks1 w (.cells #[.int .i64 c, .int .i64 n, .int .i64 o, .int .i64 x, .int .i64 y] 46)
      rw [← hW]
      clear hW
      have lW : w.heap.size < W.heap.size := by omega
      have hc0 := cell_of_block aW
      refine (l1None_c c n o x y _).mono ?_
      rintro e w1 ⟨rfl, k1⟩
      have hc1 := cell_of_block (carryB k1 lW aW)
      have l1 : w.heap.size < w1.heap.size := Nat.lt_of_lt_of_le lW k1.size
      have K1 := below_next kW k1
      go_wp2_with fail
      refine (l1Ok_c c n o x y _).mono ?_
      rintro e w2 ⟨rfl, k2⟩
      have hc2 := cell_of_block (carryB k2 l1 (carryB k1 lW aW))
      have K2 := below_next K1 k2
      go_wp2_with fail
      refine (l1Put_c c n o x y _ (by omega) (by omega) (by omega) (by omega) (by omega) (by omega) (by omega) (by omega) (by omega) (by omega)).mono ?_
      rintro e w3 ⟨rfl, k3⟩
      go_wp2_with fail
      go_ret
      refine ⟨ret_str (by simp [reqPutL, hn, hk]), below_next K2 k3⟩
end Go.Proofs.YtilldpoleiippaaDoor

/-! When a game is ok, as a plain function; no program; no condition. -/
namespace Go.Proofs.YtilldpoleiippaaDoor
open Go.RowKit

/-- The figure number j; its client's number; that of the one ahead of it. -/
def entN (es : List Rq) (j : Nat) : Rq := es.getD j ⟨0, 0, 0, 0, 0⟩
def prevC (es : List Rq) (j : Nat) : Int := if j = 0 then 0 else (entN es (j - 1)).c
/-- A figure, behind client L. -/
def figB (L : Int) (e : Rq) : Bool := inB e.c (L + 1) 4 && (inB e.n 0 3 && inB e.o 0 3) && inB e.x 0 3 && inB e.y 0 20
def entAt (es : List Rq) (j : Nat) : Bool := figB (prevC es j) (entN es j)
def entsB (es : List Rq) : Bool := (List.range es.length).all (entAt es)
def golds (es : List Rq) : Int := (es.map Rq.y).sum
def gameB (g : Gm) : Bool := entsB g.es && g.fl.all (fun n => inB n 0 20) && g.la.all (fun n => inB n 0 30) && (g.fl.length == 16) && (g.la.length == 4) && (golds g.es + g.fl.sum == 20)

theorem entsB_iff (es : List Rq) : entsB es = true ↔ ∀ j, j < es.length → entAt es j = true := by
  unfold entsB
  rw [List.all_eq_true]
  simp
theorem entsB_bad {es : List Rq} {k : Nat} (h : k < es.length) (hb : entAt es k = false) : entsB es = false := by
  rw [← Bool.not_eq_true, entsB_iff]
  intro hh
  rw [hh k h] at hb
  cases hb
theorem all_bad {α : Type} {p : α → Bool} {zs : List α} {k : Nat} (h : k < zs.length) (hb : p zs[k] = false) : zs.all p = false := by
  rw [← Bool.not_eq_true, List.all_eq_true]
  intro hh
  rw [hh _ (List.getElem_mem h)] at hb
  cases hb
theorem all_good {α : Type} {p : α → Bool} {zs : List α} {k : Nat} (h : ∀ j (hj : j < zs.length), j < k → p zs[j] = true) (hk : zs.length ≤ k) : zs.all p = true := by
  rw [List.all_eq_true]
  intro z hz
  obtain ⟨j, hj, rfl⟩ := List.getElem_of_mem hz
  exact h j hj (by omega)

theorem entN_get {es : List Rq} {k : Nat} (h : k < es.length) : entN es k = es[k] := by
  unfold entN; rw [List.getD_eq_getElem?_getD, List.getElem?_eq_getElem h]; rfl
theorem golds_snoc {es : List Rq} {k : Nat} (h : k < es.length) : golds (es.take (k + 1)) = golds (es.take k) + (entN es k).y := by
  unfold golds
  rw [List.take_succ_eq_append_getElem h, entN_get h, List.map_append, List.sum_append, List.map_cons, List.map_nil, List.sum_cons, List.sum_nil, Int.add_zero]
theorem sum_snoc {zs : List Int} {k : Nat} (h : k < zs.length) : (zs.take (k + 1)).sum = (zs.take k).sum + zs[k] := by
  rw [List.take_succ_eq_append_getElem h, List.sum_append, List.sum_cons, List.sum_nil, Int.add_zero]
/-- A figure that is one: its numbers. -/
theorem figB_iff (L : Int) (e : Rq) : figB L e = true ↔ (L + 1 ≤ e.c ∧ e.c ≤ 4) ∧ (0 ≤ e.n ∧ e.n ≤ 3) ∧ (0 ≤ e.o ∧ e.o ≤ 3) ∧ (0 ≤ e.x ∧ e.x ≤ 3) ∧ (0 ≤ e.y ∧ e.y ≤ 20) := by
  unfold figB
  simp only [Bool.and_eq_true, inB_iff]
  constructor
  · rintro ⟨⟨⟨h1, h2, h3⟩, h4⟩, h5⟩; exact ⟨h1, h2, h3, h4, h5⟩
  · rintro ⟨h1, h2, h3, h4, h5⟩; exact ⟨⟨⟨h1, h2, h3⟩, h4⟩, h5⟩
/-- The gold of the first k figures, where they are ones. -/
theorem golds_bound {es : List Rq} {k : Nat} (hk : k ≤ es.length) (h : ∀ j, j < k → entAt es j = true) : 0 ≤ golds (es.take k) ∧ golds (es.take k) ≤ 20 * k := by
  induction k with
  | zero => simp [golds]
  | succ k ih =>
    obtain ⟨a, b⟩ := ih (by omega) (fun j hj => h j (by omega))
    have hk' := h k (by omega)
    have := (figB_iff _ _).1 hk'
    rw [golds_snoc (by omega)]
    omega
theorem sum_bound {zs : List Int} {k : Nat} (hk : k ≤ zs.length) (h : ∀ j (hj : j < zs.length), j < k → inB zs[j] 0 20 = true) : 0 ≤ (zs.take k).sum ∧ (zs.take k).sum ≤ 20 * k := by
  induction k with
  | zero => simp
  | succ k ih =>
    obtain ⟨a, b⟩ := ih (by omega) (fun j hj hjk => h j hj (by omega))
    have hk' := (inB_iff _ _ _).1 (h k (by omega) (by omega))
    rw [sum_snoc (by omega)]
    omega
/-- Behind a figure: the client's number is above naught. -/
theorem prev_bound {es : List Rq} {k : Nat} (h : ∀ j, j < k → entAt es j = true) : 0 ≤ prevC es k ∧ prevC es k ≤ 4 := by
  unfold prevC
  split
  · omega
  · have h1 := (figB_iff _ _).1 (h (k - 1) (by omega))
    induction k with
    | zero => omega
    | succ k ih =>
      simp only [Nat.add_sub_cancel] at h1 ⊢
      have h2 : 0 ≤ prevC es k := by
        unfold prevC
        split
        · omega
        · exact (ih (fun j hj => h j (by omega)) (by omega) ((figB_iff _ _).1 (h (k - 1) (by omega)))).1
      omega
end Go.Proofs.YtilldpoleiippaaDoor

/-! Texts cut at a byte and glued again; numerals read back; no program; no condition. -/
namespace Go.Proofs.YtilldpoleiippaaDoor

/-- A text cut at a byte, so many times at most: what is left of it, the piece so far. -/
def cutGo (b : UInt8) : List UInt8 → List UInt8 → Nat → List (List UInt8)
  | [], cur, _ => [cur]
  | x :: rest, cur, 0 => [cur ++ x :: rest]
  | x :: rest, cur, m + 1 => if x = b then cur :: cutGo b rest [] m else cutGo b rest (cur ++ [x]) (m + 1)
def cutL (b : UInt8) (most : Nat) (s : List UInt8) : List (List UInt8) := cutGo b s [] most
/-- Pieces with a byte between. -/
def glue (b : UInt8) (p : List UInt8) (ps : List (List UInt8)) : List UInt8 := p ++ ps.flatMap (fun q => b :: q)

theorem cutGo_zero (b : UInt8) (s cur : List UInt8) : cutGo b s cur 0 = [cur ++ s] := by cases s <;> simp [cutGo]
theorem cutGo_free {b : UInt8} : ∀ (p rest cur : List UInt8) (m : Nat), b ∉ p → cutGo b (p ++ rest) cur m = cutGo b rest (cur ++ p) m
  | [], rest, cur, m, _ => by simp
  | x :: p, rest, cur, 0, _ => by simp [cutGo_zero]
  | x :: p, rest, cur, m + 1, h => by
    have hx : x ≠ b := fun e => h (by simp [e])
    have ih := cutGo_free p rest (cur ++ [x]) (m + 1) (fun q => h (List.mem_cons_of_mem _ q))
    rw [List.cons_append, cutGo, if_neg hx, ih, List.append_assoc]
    rfl
theorem cutGo_glue {b : UInt8} : ∀ (ps : List (List UInt8)) (p cur : List UInt8) (m : Nat), b ∉ p → (∀ q ∈ ps, b ∉ q) → ps.length ≤ m → cutGo b (glue b p ps) cur m = (cur ++ p) :: ps
  | [], p, cur, m, hp, _, _ => by
    have := cutGo_free p [] cur m hp
    simp only [List.append_nil] at this
    simp [glue, this, cutGo]
  | q :: qs, p, cur, 0, _, _, h => by simp at h
  | q :: qs, p, cur, m + 1, hp, hq, h => by
    have h1 := cutGo_free p (b :: glue b q qs) cur (m + 1) hp
    have h2 := cutGo_glue qs q [] m (hq q (by simp)) (fun r hr => hq r (by simp [hr])) (by simpa using h)
    have e : glue b p (q :: qs) = p ++ (b :: glue b q qs) := by simp [glue]
    rw [e, h1, cutGo, if_pos rfl, h2]
    rfl
theorem cutL_glue {b : UInt8} {p : List UInt8} {ps : List (List UInt8)} {m : Nat} (hp : b ∉ p) (hq : ∀ q ∈ ps, b ∉ q) (h : ps.length ≤ m) : cutL b m (glue b p ps) = p :: ps := by
  unfold cutL
  rw [cutGo_glue ps p [] m hp hq h]
  rfl
theorem glue_inj {b : UInt8} {p p' : List UInt8} {ps ps' : List (List UInt8)} (hp : b ∉ p) (hq : ∀ q ∈ ps, b ∉ q) (hp' : b ∉ p') (hq' : ∀ q ∈ ps', b ∉ q) (h : glue b p ps = glue b p' ps') : p = p' ∧ ps = ps' := by
  have h1 := cutL_glue (m := max ps.length ps'.length) hp hq (by omega)
  have h2 := cutL_glue (m := max ps.length ps'.length) hp' hq' (by omega)
  rw [h, h2] at h1
  injection h1 with h1 h2
  exact ⟨h1.symm, h2.symm⟩

/-! The library's way of cutting. -/
theorem indexByte_free {b : UInt8} : ∀ (p : List UInt8), b ∉ p → Lib.indexByte p b = -1
  | [], _ => rfl
  | x :: p, h => by
    have hx : (x == b) = false := by simp; exact fun e => h (by simp [e])
    have ih := indexByte_free p (fun q => h (List.mem_cons_of_mem _ q))
    simp [Lib.indexByte, hx, ih]
theorem indexByte_at {b : UInt8} : ∀ (p rest : List UInt8), b ∉ p → Lib.indexByte (p ++ b :: rest) b = p.length
  | [], rest, _ => by simp [Lib.indexByte]
  | x :: p, rest, h => by
    have hx : (x == b) = false := by simp; exact fun e => h (by simp [e])
    have ih := indexByte_at p rest (fun q => h (List.mem_cons_of_mem _ q))
    have hn : ((p.length : Int) == -1) = false := by simp <;> omega
    simp [Lib.indexByte, hx, ih] <;> omega
theorem count_free {b : UInt8} {p : List UInt8} (h : b ∉ p) : p.count b = 0 := List.count_eq_zero.2 h
theorem count_glue {b : UInt8} : ∀ (ps : List (List UInt8)) (p : List UInt8), b ∉ p → (∀ q ∈ ps, b ∉ q) → Lib.count (glue b p ps) [b] = ps.length := by
  intro ps p hp hq
  rw [Lib.count_one]
  unfold glue
  rw [List.count_append, count_free hp, Nat.zero_add]
  induction ps with
  | nil => rfl
  | cons q qs ih =>
    rw [List.flatMap_cons, List.count_append, List.count_cons_self, count_free (hq q (by simp)), ih (fun r hr => hq r (by simp [hr]))]
    simp
    omega
theorem splitK_glue {b : UInt8} : ∀ (ps : List (List UInt8)) (p : List UInt8), b ∉ p → (∀ q ∈ ps, b ∉ q) → Lib.splitK [b] 0 ps.length (glue b p ps) = p :: ps
  | [], p, _, _ => by simp [glue, Lib.splitK]
  | q :: qs, p, hp, hq => by
    have e : glue b p (q :: qs) = p ++ (b :: glue b q qs) := by simp [glue]
    have hi := indexByte_at p (glue b q qs) hp
    have hn : ((p.length : Int) == -1) = false := by simp <;> omega
    have h2 := splitK_glue qs q (hq q (by simp)) (fun r hr => hq r (by simp [hr]))
    have ed : (p ++ b :: glue b q qs).drop (p.length + 1) = glue b q qs := by
      rw [List.drop_append]; simp
    rw [e, List.length_cons, Lib.splitK, Lib.index_one, hi, hn]
    simp only [Bool.false_eq_true, if_false, Int.toNat_natCast, Nat.add_zero, List.length_cons, List.length_nil, Nat.zero_add, ed, h2]
    rw [List.take_append_of_le_length (Nat.le_refl _), List.take_length]
/-- strings.Cut at one byte. -/
theorem cut_at {b : UInt8} {p rest : List UInt8} (hp : b ∉ p) : Lib.cut (p ++ b :: rest) [b] = (p, rest, true) := by
  unfold Lib.cut
  rw [Lib.index_one, indexByte_at p rest hp, if_pos (by omega)]
  have ed : (p ++ b :: rest).drop (p.length + 1) = rest := by rw [List.drop_append]; simp
  simp only [Int.toNat_natCast, List.length_cons, List.length_nil, Nat.zero_add, ed]
  rw [List.take_append_of_le_length (Nat.le_refl _), List.take_length]
theorem cut_none {b : UInt8} {p : List UInt8} (hp : b ∉ p) : Lib.cut p [b] = (p, [], false) := by
  unfold Lib.cut
  rw [Lib.index_one, indexByte_free p hp, if_neg (by omega)]

/-! Numerals. -/
theorem digit_toNat {u : Nat} (h : u < 10) : (UInt8.ofNat (48 + u)).toNat = 48 + u := by
  rw [UInt8.toNat_ofNat']; omega
theorem decDigits_mem : ∀ (k u : Nat), u ≤ k → ∀ c ∈ Lib.decDigits u, 48 ≤ c.toNat ∧ c.toNat ≤ 57
  | k, u, hk, c, hc => by
    rw [Lib.decDigits] at hc
    split at hc
    · rename_i h
      rw [List.mem_singleton] at hc
      subst hc
      rw [digit_toNat h]
      omega
    · rename_i h
      rcases List.mem_append.1 hc with h' | h'
      · cases k with
        | zero => omega
        | succ k => exact decDigits_mem k (u / 10) (by omega) c h'
      · rw [List.mem_singleton] at h'
        subst h'
        rw [digit_toNat (by omega)]
        omega
theorem decDigits_digit {u : Nat} {c : UInt8} (h : c ∈ Lib.decDigits u) : 48 ≤ c.toNat ∧ c.toNat ≤ 57 := decDigits_mem u u (Nat.le_refl _) c h
theorem itoa_mem {n : Int} {c : UInt8} (h : c ∈ Lib.itoa n) : c.toNat = 45 ∨ (48 ≤ c.toNat ∧ c.toNat ≤ 57) := by
  unfold Lib.itoa at h
  split at h
  · rcases List.mem_cons.1 h with h' | h'
    · subst h'; exact .inl rfl
    · exact .inr (decDigits_digit h')
  · exact .inr (decDigits_digit h)
theorem itoa_free {n : Int} {b : UInt8} (h1 : b.toNat ≠ 45) (h2 : b.toNat < 48 ∨ 57 < b.toNat) : b ∉ Lib.itoa n := fun h => by
  rcases itoa_mem h with q | q <;> omega
theorem decDigits_ne (u : Nat) : Lib.decDigits u ≠ [] := by
  rw [Lib.decDigits]
  split <;> simp
theorem parseUint10_dec : ∀ (k u : Nat) (rest : List UInt8), u ≤ k → u < 1000000000000000000 → Lib.parseUint10 0 (Lib.decDigits u ++ rest) = Lib.parseUint10 u rest
  | k, u, rest, hk, hu => by
    rw [Lib.decDigits]
    split
    · rename_i h
      rw [List.singleton_append, Lib.parseUint10, digit_toNat h, if_pos (by omega), if_neg (by omega), if_neg (by omega)]
      congr 1
      omega
    · rename_i h
      cases k with
      | zero => omega
      | succ k =>
        rw [List.append_assoc, parseUint10_dec k (u / 10) _ (by omega) (by omega), List.singleton_append, Lib.parseUint10, digit_toNat (by omega), if_pos (by omega), if_neg (by omega), if_neg (by omega)]
        congr 1
        omega
theorem parseMag_dec {u : Nat} (hu : u < 1000000000000000000) : Lib.parseMag (Lib.decDigits u) = .ok u := by
  unfold Lib.parseMag
  rw [if_neg (decDigits_ne u)]
  have := parseUint10_dec u u [] (Nat.le_refl _) hu
  rw [List.append_nil] at this
  rw [this]
  rfl
theorem atoiAll_itoa {n : Int} (h0 : -1000000000000000000 < n) (h1 : n < 1000000000000000000) : Lib.atoiAll (Lib.itoa n) = .ok n := by
  unfold Lib.itoa
  split
  · rename_i h
    unfold Lib.atoiAll
    simp only
    have h45 : (45 : UInt8).toNat = 45 := rfl
    rw [if_pos (.inr h45), parseMag_dec (by omega)]
    simp only [h45, not_true_eq_false, false_and, if_false, true_and, if_true]
    rw [if_neg (by omega)]
    congr 1
    omega
  · rename_i h
    cases hd : Lib.decDigits n.toNat with
    | nil => exact absurd hd (decDigits_ne _)
    | cons c r =>
      have hc := decDigits_digit (u := n.toNat) (c := c) (by rw [hd]; simp)
      unfold Lib.atoiAll
      simp only
      rw [if_neg (by omega), ← hd, parseMag_dec (by omega)]
      have e45 : ¬ c.toNat = 45 := by omega
      simp only [e45, not_false_eq_true, true_and, false_and, if_false]
      rw [if_neg (by omega)]
      congr 1
      omega
theorem atoiOr_itoa {n d : Int} (h0 : -1000000000000000000 < n) (h1 : n < 1000000000000000000) : Lib.atoiOr (Lib.itoa n) d = n := by
  unfold Lib.atoiOr
  rw [atoiAll_itoa h0 h1]
theorem itoa_inj {n m : Int} (h0 : -1000000000000000000 < n) (h1 : n < 1000000000000000000) (h2 : -1000000000000000000 < m) (h3 : m < 1000000000000000000) (h : Lib.itoa n = Lib.itoa m) : n = m := by
  have e1 := atoiAll_itoa h0 h1
  have e2 := atoiAll_itoa h2 h3
  rw [h, e2] at e1
  injection e1 with e1
  exact e1.symm

/-! The reference's way of reading a number of one or two digits. -/
def numGo : List UInt8 → Nat → Int → Option Int
  | [], _, acc => some acc
  | c :: r, i, acc => if c.toNat < 48 ∨ 57 < c.toNat ∨ 2 ≤ i then none else numGo r (i + 1) (acc * 10 + ((c.toNat : Int) - 48))
def numPos (s : List UInt8) : Int :=
  match numGo s 0 0 with
  | none => -999
  | some n => if s.length = 0 ∨ (1 < s.length ∧ s.head? = some 48) then -999 else n
def numL : List UInt8 → Int
  | [] => numPos []
  | [c] => numPos [c]
  | c :: d :: r => if c = 45 ∧ d ≠ 48 then (if numL (d :: r) < 0 then -999 else -numL (d :: r)) else numPos (c :: d :: r)

theorem num_one : ∀ u : Fin 10, numPos [UInt8.ofNat (48 + u.val)] = (u.val : Int) := by decide +kernel
theorem num_two : ∀ p : Fin 100, 10 ≤ p.val → numPos [UInt8.ofNat (48 + p.val / 10), UInt8.ofNat (48 + p.val % 10)] = (p.val : Int) := by decide +kernel
theorem dig_ne45 : ∀ u : Fin 10, UInt8.ofNat (48 + u.val) ≠ 45 := by decide +kernel
theorem dig_ne48 : ∀ u : Fin 10, 1 ≤ u.val → UInt8.ofNat (48 + u.val) ≠ 48 := by decide +kernel
theorem numL_dec {u : Nat} (h : u < 100) : numL (Lib.decDigits u) = u := by
  by_cases h1 : u < 10
  · rw [Lib.decDigits_one h1, numL]
    exact num_one ⟨u, h1⟩
  · rw [Lib.decDigits_two h1 h, numL, if_neg (fun q => dig_ne45 ⟨u / 10, by omega⟩ q.1)]
    exact num_two ⟨u, h⟩ (by show 10 ≤ u; omega)
theorem numL_itoa {n : Int} (h0 : -99 ≤ n) (h1 : n ≤ 99) : numL (Lib.itoa n) = n := by
  unfold Lib.itoa
  split
  · rename_i h
    have hn : n.natAbs < 100 := by omega
    have hp : 1 ≤ n.natAbs := by omega
    have e := numL_dec hn
    by_cases h1 : n.natAbs < 10
    · rw [Lib.decDigits_one h1] at e ⊢
      rw [numL, if_pos ⟨rfl, dig_ne48 ⟨n.natAbs, h1⟩ hp⟩, e, if_neg (by omega)]
      omega
    · rw [Lib.decDigits_two h1 hn] at e ⊢
      rw [numL, if_pos ⟨rfl, dig_ne48 ⟨n.natAbs / 10, by omega⟩ (by show 1 ≤ n.natAbs / 10; omega)⟩, e, if_neg (by omega)]
      omega
  · have := numL_dec (u := n.toNat) (by omega)
    rw [this]
    omega
end Go.Proofs.YtilldpoleiippaaDoor

/-! What is read of a text as an ask, as a relation; no program; no condition. -/
namespace Go.Proofs.YtilldpoleiippaaDoor
open Go.RowKit

def Rq.zero : Rq := ⟨0, 0, 0, 0, 0⟩
/-- What is read of a text: the ask that is written so, if there is one. -/
def IsGet (s : List UInt8) (r : Rq) (b : Bool) : Prop :=
  (b = true ∧ good r = true ∧ reqPutL r = s) ∨ (b = false ∧ r = Rq.zero ∧ ∀ q, good q = true → reqPutL q ≠ s)
/-- The five pieces of an ask. -/
def restOf (r : Rq) : List (List UInt8) := [Lib.itoa r.n, words.getD r.o.toNat [], Lib.itoa r.x, Lib.itoa r.y]
def noneT : List UInt8 := [110, 111, 110, 101]

theorem putL_glue (r : Rq) : putL r.c r.n r.o r.x r.y = glue 32 (Lib.itoa r.c) (restOf r) := by
  simp [putL, glue, restOf]
theorem words_free (k : Nat) : (32 : UInt8) ∉ words.getD k [] ∧ (10 : UInt8) ∉ words.getD k [] := by
  match k with
  | 0 | 1 | 2 | 3 | 4 | 5 => decide
  | k + 6 => simp [words]
theorem restOf_free (r : Rq) : ∀ q ∈ restOf r, (32 : UInt8) ∉ q := by
  intro q hq
  simp only [restOf, List.mem_cons, List.not_mem_nil, or_false] at hq
  rcases hq with rfl | rfl | rfl | rfl
  · exact itoa_free (by decide) (by decide)
  · exact (words_free _).1
  · exact itoa_free (by decide) (by decide)
  · exact itoa_free (by decide) (by decide)
theorem okB_op1 {r : Rq} (h : okB r.c r.n r.o r.x r.y = true) : 1 ≤ r.o ∧ r.o ≤ 5 := by
  have h0 := okB_op h
  refine ⟨?_, h0.2.1⟩
  by_cases hz : r.o = 0
  · unfold okB at h
    rw [hz] at h
    simp at h
  · omega
theorem words_op : ∀ i j : Fin 6, words.getD i.val [] = words.getD j.val [] → i = j := by decide
theorem putL_inj {r q : Rq} (hr : okB r.c r.n r.o r.x r.y = true) (hq : okB q.c q.n q.o q.x q.y = true) (h : putL r.c r.n r.o r.x r.y = putL q.c q.n q.o q.x q.y) : r = q := by
  have b1 := okB_op hr
  have b2 := okB_op hq
  rw [putL_glue, putL_glue] at h
  obtain ⟨h0, h1⟩ := glue_inj (itoa_free (by decide) (by decide)) (restOf_free r) (itoa_free (by decide) (by decide)) (restOf_free q) h
  simp only [restOf, List.cons.injEq, and_true] at h1
  obtain ⟨h1, h2, h3, h4⟩ := h1
  have ho := words_op ⟨r.o.toNat, by omega⟩ ⟨q.o.toNat, by omega⟩ h2
  injection ho with ho
  exact Rq.eq_of (itoa_inj (by omega) (by omega) (by omega) (by omega) h0) (itoa_inj (by omega) (by omega) (by omega) (by omega) h1) (by omega) (itoa_inj (by omega) (by omega) (by omega) (by omega) h3) (itoa_inj (by omega) (by omega) (by omega) (by omega) h4)
theorem good_cases {r : Rq} (h : good r = true) : (r = Rq.zero ∧ reqPutL r = noneT) ∨ (okB r.c r.n r.o r.x r.y = true ∧ reqPutL r = putL r.c r.n r.o r.x r.y ∧ r ≠ Rq.zero) := by
  unfold good goodB at h
  by_cases hz : r = Rq.zero
  · subst hz; exact .inl ⟨rfl, rfl⟩
  · have hn : eqR r.c r.n r.o r.x r.y 0 0 0 0 0 = false := eqR_ne (s := Rq.zero) hz
    rw [hn, Bool.false_or] at h
    refine .inr ⟨h, ?_, hz⟩
    unfold reqPutL noneB
    rw [hn, h]
    rfl
theorem good_zero : good Rq.zero = true := rfl
theorem good_ok {r : Rq} (h : okB r.c r.n r.o r.x r.y = true) : good r = true := by unfold good goodB; rw [h, Bool.or_true]
theorem none_ne_put (r : Rq) : putL r.c r.n r.o r.x r.y ≠ noneT := by
  intro h
  have hm : (32 : UInt8) ∈ putL r.c r.n r.o r.x r.y := by rw [putL_glue]; simp [glue, restOf]
  rw [h] at hm
  revert hm
  decide
theorem reqPutL_inj {r q : Rq} (hr : good r = true) (hq : good q = true) (h : reqPutL r = reqPutL q) : r = q := by
  rcases good_cases hr with ⟨r0, e0⟩ | ⟨r1, e1, -⟩ <;> rcases good_cases hq with ⟨q0, f0⟩ | ⟨q1, f1, -⟩
  · rw [r0, q0]
  · rw [e0, f1] at h; exact absurd h.symm (none_ne_put q)
  · rw [e1, f0] at h; exact absurd h (none_ne_put r)
  · rw [e1, f1] at h; exact putL_inj r1 q1 h
theorem IsGet.uniq {s : List UInt8} {r q : Rq} {a b : Bool} (h : IsGet s r a) (k : IsGet s q b) : r = q ∧ a = b := by
  rcases h with ⟨rfl, h1, h2⟩ | ⟨rfl, h1, h2⟩ <;> rcases k with ⟨rfl, k1, k2⟩ | ⟨rfl, k1, k2⟩
  · exact ⟨reqPutL_inj h1 k1 (h2.trans k2.symm), rfl⟩
  · exact absurd h2 (k2 _ h1)
  · exact absurd k2 (h2 _ k1)
  · exact ⟨h1.trans k1.symm, rfl⟩
theorem IsGet.put {r : Rq} (h : good r = true) : IsGet (reqPutL r) r true := .inl ⟨rfl, h, rfl⟩
theorem isGet_none : IsGet noneT Rq.zero true := .inl ⟨rfl, good_zero, rfl⟩
/-- What was read is written so. -/
theorem isGet_yes {s : List UInt8} {r : Rq} (h : okB r.c r.n r.o r.x r.y = true) (hs : putL r.c r.n r.o r.x r.y = s) : IsGet s r true := by
  rcases good_cases (good_ok h) with ⟨r0, e0⟩ | ⟨r1, e1, -⟩
  · subst r0; cases h
  · exact .inl ⟨rfl, good_ok h, e1.trans hs⟩
/-- Nothing is written so. -/
theorem isGet_no {s : List UInt8} (hn : s ≠ noneT) (h : ∀ q : Rq, okB q.c q.n q.o q.x q.y = true → putL q.c q.n q.o q.x q.y ≠ s) : IsGet s Rq.zero false := by
  refine .inr ⟨rfl, rfl, fun q hq e => ?_⟩
  rcases good_cases hq with ⟨-, e0⟩ | ⟨q1, e1, -⟩
  · exact hn (e.symm.trans e0)
  · exact h q q1 (e1.symm.trans e)

/-- What the reference reads: the last word that is alike. -/
def opAux (w : List UInt8) : Nat → Int
  | 0 => 0
  | k + 1 => if words.getD (k + 1) [] = w then ((k + 1 : Nat) : Int) else opAux w k
theorem opAux_word : ∀ k : Fin 6, 1 ≤ k.val → opAux (words.getD k.val []) 5 = (k.val : Int) := by decide
/-- An ask read piece by piece. -/
def readR (ps : List (List UInt8)) : Rq := ⟨numL (ps.getD 0 []), numL (ps.getD 1 []), opAux (ps.getD 2 []) 5, numL (ps.getD 3 []), numL (ps.getD 4 [])⟩
theorem readR_put {q : Rq} (h : okB q.c q.n q.o q.x q.y = true) : readR (Lib.itoa q.c :: restOf q) = q := by
  have b := okB_op h
  have b1 := okB_op1 h
  have ho := opAux_word ⟨q.o.toNat, by omega⟩ (by show 1 ≤ q.o.toNat; omega)
  refine Rq.eq_of ?_ ?_ ?_ ?_ ?_
  · exact numL_itoa (n := q.c) (by omega) (by omega)
  · exact numL_itoa (n := q.n) (by omega) (by omega)
  · show opAux (words.getD q.o.toNat []) 5 = q.o
    rw [ho]
    show ((q.o.toNat : Nat) : Int) = q.o
    omega
  · exact numL_itoa (n := q.x) (by omega) (by omega)
  · exact numL_itoa (n := q.y) (by omega) (by omega)
theorem cut_put (q : Rq) : cutL 32 5 (putL q.c q.n q.o q.x q.y) = Lib.itoa q.c :: restOf q := by
  rw [putL_glue]
  exact cutL_glue (itoa_free (by decide) (by decide)) (restOf_free q) (by simp [restOf])
/-- The reference's answer: not five pieces, or what is read is none, or written another way. -/
theorem isGet_spec_no {s : List UInt8} (hn : s ≠ noneT) (h : (cutL 32 5 s).length = 5 → okB (readR (cutL 32 5 s)).c (readR (cutL 32 5 s)).n (readR (cutL 32 5 s)).o (readR (cutL 32 5 s)).x (readR (cutL 32 5 s)).y = true → putL (readR (cutL 32 5 s)).c (readR (cutL 32 5 s)).n (readR (cutL 32 5 s)).o (readR (cutL 32 5 s)).x (readR (cutL 32 5 s)).y ≠ s) : IsGet s Rq.zero false := by
  refine isGet_no hn fun q hq e => ?_
  subst e
  rw [cut_put, readR_put hq] at h
  exact h rfl hq rfl

/-- What the program reads. -/
def wordsS : List ByteArray := words.map (fun l => ⟨l.toArray⟩)
def readI (ps : List (List UInt8)) : Rq := ⟨Lib.atoiOr (ps.getD 0 []) (-1099511627776), Lib.atoiOr (ps.getD 1 []) (-1099511627776), Lib.idxOfS wordsS ⟨(ps.getD 2 []).toArray⟩, Lib.atoiOr (ps.getD 3 []) (-1099511627776), Lib.atoiOr (ps.getD 4 []) (-1099511627776)⟩
theorem idx_word : ∀ k : Fin 6, Lib.idxOfS wordsS ⟨(words.getD k.val []).toArray⟩ = (k.val : Int) := by decide +kernel
theorem readI_put {q : Rq} (h : okB q.c q.n q.o q.x q.y = true) : readI (Lib.itoa q.c :: restOf q) = q := by
  have b := okB_op h
  have b1 := okB_op1 h
  have ho := idx_word ⟨q.o.toNat, by omega⟩
  refine Rq.eq_of ?_ ?_ ?_ ?_ ?_
  · exact atoiOr_itoa (n := q.c) (by omega) (by omega)
  · exact atoiOr_itoa (n := q.n) (by omega) (by omega)
  · show Lib.idxOfS wordsS ⟨(words.getD q.o.toNat []).toArray⟩ = q.o
    rw [ho]
    show ((q.o.toNat : Nat) : Int) = q.o
    omega
  · exact atoiOr_itoa (n := q.x) (by omega) (by omega)
  · exact atoiOr_itoa (n := q.y) (by omega) (by omega)
def splitS (s : List UInt8) : List (List UInt8) := Lib.splitK [32] 0 (Lib.count s [32]) s
theorem split_put (q : Rq) : splitS (putL q.c q.n q.o q.x q.y) = Lib.itoa q.c :: restOf q := by
  unfold splitS
  rw [putL_glue, count_glue _ _ (itoa_free (by decide) (by decide)) (restOf_free q)]
  exact splitK_glue _ _ (itoa_free (by decide) (by decide)) (restOf_free q)
theorem isGet_impl_no {s : List UInt8} (hn : s ≠ noneT) (h : (splitS s).length = 5 → okB (readI (splitS s)).c (readI (splitS s)).n (readI (splitS s)).o (readI (splitS s)).x (readI (splitS s)).y = true → putL (readI (splitS s)).c (readI (splitS s)).n (readI (splitS s)).o (readI (splitS s)).x (readI (splitS s)).y ≠ s) : IsGet s Rq.zero false := by
  refine isGet_no hn fun q hq e => ?_
  subst e
  rw [split_put, readI_put hq] at h
  exact h rfl hq rfl
end Go.Proofs.YtilldpoleiippaaDoor

/-! Rows of texts: appends of one; no program's contract; no condition. -/
namespace Go.Proofs.YtilldpoleiippaaDoor
open Go.RowKit Go.Joins

/-- A text's cell. -/
def strR (l : List UInt8) : List Value := [.string ⟨l.toArray⟩]
theorem str_len (l : List UInt8) : (strR l).length = 1 := rfl
theorem str_one : ∀ z : List UInt8, ∀ u ∈ strR z, u.oneCell' = true := by
  intro z u hu
  simp only [strR, List.mem_singleton] at hu
  subst hu
  rfl
set_option maxRecDepth 100000 in
theorem eltStr : Elt Tryd.prog 59 9 1 16 strR := by
  obtain ⟨i, h1, h2, h3, h4⟩ := info_parts (P := Tryd.prog) (e := 9) (z := .string ByteArray.empty) (size := 1) (bytes := 16) (by kernel_rfl)
  exact ⟨Tryd.underlying59, ⟨i, _, h1, h2, h3, h4, rfl⟩, by decide, str_len, str_one⟩
theorem rowsAt_str (w : World) (l : List UInt8) (t : TypeId) : RowsAt (w.alloc (.cells #[.string ⟨l.toArray⟩] t)) (some ⟨w.heap.size, 0, none⟩) 1 strR [l] :=
  rows_of_block (t := t) (fr := (0, 0)) str_len (heap_alloc_new w (.cells #[.string ⟨l.toArray⟩] t))
end Go.Proofs.YtilldpoleiippaaDoor

/-! Rows of a ledger (six integers each): slices of them copied, weighed, compared; condition: at most 2^20 elements. -/
namespace Go.Proofs.YtilldpoleiippaaDoor
open Go.RowKit Go.Joins

/-- A row: a request and its sum. -/
structure En where
  r : Rq
  s : Int
deriving DecidableEq
def En.cs (z : En) : List Value := [.int .i64 z.r.c, .int .i64 z.r.n, .int .i64 z.r.o, .int .i64 z.r.x, .int .i64 z.r.y, .int .i64 z.s]
def en0 : En := ⟨⟨0, 0, 0, 0, 0⟩, 0⟩
theorem six_len (z : En) : z.cs.length = 6 := rfl
theorem flat_six_set (zs : List En) (i : Nat) (h : i < zs.length) (z : En) :
    ((((((flat En.cs zs).setIfInBounds (i * 6) (.int .i64 z.r.c)).setIfInBounds (i * 6 + 1) (.int .i64 z.r.n)).setIfInBounds (i * 6 + 2) (.int .i64 z.r.o)).setIfInBounds (i * 6 + 3) (.int .i64 z.r.x)).setIfInBounds (i * 6 + 4) (.int .i64 z.r.y)).setIfInBounds (i * 6 + 5) (.int .i64 z.s) = flat En.cs (zs.set i z) := by
  unfold flat
  simp only [List.setIfInBounds_toArray]
  congr 1
  induction zs generalizing i with
  | nil => cases h
  | cons y zs ih =>
    cases i with
    | zero => simp [List.flatMap_cons, En.cs]
    | succ i =>
      have := ih i (by simpa using h)
      have e : ∀ j, (i + 1) * 6 + j = 6 + (i * 6 + j) := fun j => by omega
      have e0 : (i + 1) * 6 = 6 + i * 6 := by omega
      have ap : ∀ (l : List Value) (m : Nat) (v : Value), (y.cs ++ l).set (6 + m) v = y.cs ++ l.set m v := fun l m v => by
        rw [List.set_append_right _ _ (by rw [six_len]; omega), six_len]
        congr 2
        omega
      simp only [List.flatMap_cons, List.set_cons_succ]
      rw [e 1, e 2, e 3, e 4, e 5, e0, ap, ap, ap, ap, ap, ap, this]
theorem made_six (n : Nat) : madeCells #[.int .i64 0, .int .i64 0, .int .i64 0, .int .i64 0, .int .i64 0, .int .i64 0] (n * 6) = flat En.cs (List.replicate n en0) := by
  apply Array.ext
  · rw [flat_size six_len]; simp [madeCells]
  · intro i h1 h2
    have hi : i < n * 6 := by simpa [madeCells] using h1
    have g := flat_get six_len (List.replicate n en0) (i / 6) (by simp; omega) (i % 6) (by omega)
    rw [show i / 6 * 6 + i % 6 = i by omega] at g
    have hm : i % 6 = 0 ∨ i % 6 = 1 ∨ i % 6 = 2 ∨ i % 6 = 3 ∨ i % 6 = 4 ∨ i % 6 = 5 := by omega
    rw [Array.getElem?_eq_getElem h2] at g
    apply Option.some.inj
    rw [g]
    simp only [madeCells, Array.getElem_map, Array.getElem_range, List.getElem_replicate]
    rcases hm with h | h | h | h | h | h <;> (simp [h, En.cs, en0])

theorem six_at {w : World} {a : Option Addr} {zs : List En} (h : RowsAt w a 6 En.cs zs) (k : Nat) (hk : k < zs.length) :
    ∃ b off, a = some ⟨b, off, none⟩ ∧ b < w.heap.size ∧ ∀ wr, Below w.heap.size w wr → wr.cell? ⟨b, off + k * 6, none⟩ = some (.int .i64 zs[k].r.c) ∧ wr.cell? ⟨b, off + k * 6 + 1, none⟩ = some (.int .i64 zs[k].r.n) ∧ wr.cell? ⟨b, off + k * 6 + 2, none⟩ = some (.int .i64 zs[k].r.o) ∧ wr.cell? ⟨b, off + k * 6 + 3, none⟩ = some (.int .i64 zs[k].r.x) ∧ wr.cell? ⟨b, off + k * 6 + 4, none⟩ = some (.int .i64 zs[k].r.y) ∧ wr.cell? ⟨b, off + k * 6 + 5, none⟩ = some (.int .i64 zs[k].s) := by
  obtain ⟨b, off, rfl, hb, hc⟩ := h k hk
  refine ⟨b, off, rfl, hb, fun wr hbel => ?_⟩
  have g : ∀ j, j < 6 → wr.cell? ⟨b, off + k * 6 + j, none⟩ = zs[k].cs[j]? := fun j hj => (hbel.cell (p := ⟨b, _, none⟩) hb).trans (hc j hj)
  exact ⟨g 0 (by decide), g 1 (by decide), g 2 (by decide), g 3 (by decide), g 4 (by decide), g 5 (by decide)⟩

theorem infoEntry : (Tryd.prog.info? 67).map (fun i => (i.zero, i.size, i.bytes)) = some (some (.agg #[.int .i64 0, .int .i64 0, .int .i64 0, .int .i64 0, .int .i64 0, .int .i64 0]), 6, 48) := by kernel_rfl

theorem make_Entry (w : World) (n : Nat) (h : n ≤ 1048576) : (Instr.makeSlice 22 (.int .i64 (n : Int)) (.int .i64 (n : Int))).run Tryd.prog w = .ok (.slice (some ⟨w.heap.size, 0, none⟩) n n) (w.alloc (.cells (flat En.cs (List.replicate n en0)) 67)) := by
  obtain ⟨i0, hi, hz0, hz1, hz2⟩ := info_parts infoEntry
  have := run_make (P := Tryd.prog) (w := w) 22 67 i0 _ Tryd.underlying22 hi hz0 .i64 .i64 (n : Int) (n : Int) (by omega) (by omega) (by rw [hz2]; omega) (by omega)
  rw [hz1] at this
  rw [← made_six]
  simpa [Value.cells] using this

set_option maxHeartbeats 1000000 in
theorem eqEntry_self (c n o x y s : Int) (w : World) :
    Calls Tryd.prog 50 #[.agg #[.int .i64 c, .int .i64 n, .int .i64 o, .int .i64 x, .int .i64 y, .int .i64 s], .agg #[.int .i64 c, .int .i64 n, .int .i64 o, .int .i64 x, .int .i64 y, .int .i64 s]] w (Yes w) := by
  go_enter Tryd.func50, Tryd.ntmps50
  go_wp2_with fail
  obtain ⟨W, hW, sW, aW, bW, kW⟩ := blocks2 w (.cells #[.int .i64 c, .int .i64 n, .int .i64 o, .int .i64 x, .int .i64 y, .int .i64 s] 67) (.cells #[.int .i64 c, .int .i64 n, .int .i64 o, .int .i64 x, .int .i64 y, .int .i64 s] 67)
  rw [← hW]
  clear hW
  refine (eqReq_self c n o x y _).mono ?_
  rintro e w1 ⟨rfl, k1⟩
  have K1 := below_next kW k1
  have hcA := cell_of_block (carryB k1 (by omega) aW)
  have hcB := cell_of_block (carryB k1 (by omega) bW)
  go_wp2_with fail
  go_ret
  exact ⟨rfl, K1⟩

set_option maxRecDepth 100000 in
set_option maxHeartbeats 1000000 in
theorem eqEntryS_c (va vb : Value) (zs : List En) (w : World) (ha : IsSl w va 6 En.cs zs) (hb : IsSl w vb 6 En.cs zs) :
    Calls Tryd.prog 14 #[va, vb] w (Yes w) := by
  obtain ⟨a, cap, rfl, hlc, hm, hra⟩ := ha
  obtain ⟨b, cap', rfl, hlc', hm', hrb⟩ := hb
  have HA := Lib.hid hra
  have HB := Lib.hid hrb
  clear hra hrb
  unfold maxLen at hm hm'
  generalize hnn : zs.length = n at *
  go_enter Tryd.func14, Tryd.ntmps14
  go_wp2_with fail
  go_loopw [5] (fun i wr => ∃ k : Nat, k ≤ n ∧ i = .int .i64 k ∧ Below w.heap.size w wr) (fun i _ => n - (intOf i).toNat)
  case atStart => exact ⟨0, Nat.zero_le _, rfl, Below.refl _ _⟩
  case round =>
    obtain ⟨k, hk, rfl, hbel⟩ := hrel
    by_cases hlt : k < n
    · have hkz : k < zs.length := by omega
      have hk1 : (k : Int) < (n : Int) := by omega
      have hk0 : (0 : Int) ≤ (k : Int) := by omega
      obtain ⟨b0, o0, rfl, hl0, hc0⟩ := HA.out k hkz
      obtain ⟨b1, o1, rfl, hl1, hc1⟩ := HB.out k hkz
      have c0 : wr.cell? ⟨b0, o0 + k * 6, none⟩ = some (.int .i64 zs[k].r.c) := (hbel.cell (p := ⟨b0, _, none⟩) hl0).trans (hc0 0 (by decide))
      have c1 : wr.cell? ⟨b0, o0 + k * 6 + 1, none⟩ = some (.int .i64 zs[k].r.n) := (hbel.cell (p := ⟨b0, _, none⟩) hl0).trans (hc0 1 (by decide))
      have c2 : wr.cell? ⟨b0, o0 + k * 6 + 2, none⟩ = some (.int .i64 zs[k].r.o) := (hbel.cell (p := ⟨b0, _, none⟩) hl0).trans (hc0 2 (by decide))
      have c3 : wr.cell? ⟨b0, o0 + k * 6 + 3, none⟩ = some (.int .i64 zs[k].r.x) := (hbel.cell (p := ⟨b0, _, none⟩) hl0).trans (hc0 3 (by decide))
      have c4 : wr.cell? ⟨b0, o0 + k * 6 + 4, none⟩ = some (.int .i64 zs[k].r.y) := (hbel.cell (p := ⟨b0, _, none⟩) hl0).trans (hc0 4 (by decide))
      have c5 : wr.cell? ⟨b0, o0 + k * 6 + 5, none⟩ = some (.int .i64 zs[k].s) := (hbel.cell (p := ⟨b0, _, none⟩) hl0).trans (hc0 5 (by decide))
      have d0 : wr.cell? ⟨b1, o1 + k * 6, none⟩ = some (.int .i64 zs[k].r.c) := (hbel.cell (p := ⟨b1, _, none⟩) hl1).trans (hc1 0 (by decide))
      have d1 : wr.cell? ⟨b1, o1 + k * 6 + 1, none⟩ = some (.int .i64 zs[k].r.n) := (hbel.cell (p := ⟨b1, _, none⟩) hl1).trans (hc1 1 (by decide))
      have d2 : wr.cell? ⟨b1, o1 + k * 6 + 2, none⟩ = some (.int .i64 zs[k].r.o) := (hbel.cell (p := ⟨b1, _, none⟩) hl1).trans (hc1 2 (by decide))
      have d3 : wr.cell? ⟨b1, o1 + k * 6 + 3, none⟩ = some (.int .i64 zs[k].r.x) := (hbel.cell (p := ⟨b1, _, none⟩) hl1).trans (hc1 3 (by decide))
      have d4 : wr.cell? ⟨b1, o1 + k * 6 + 4, none⟩ = some (.int .i64 zs[k].r.y) := (hbel.cell (p := ⟨b1, _, none⟩) hl1).trans (hc1 4 (by decide))
      have d5 : wr.cell? ⟨b1, o1 + k * 6 + 5, none⟩ = some (.int .i64 zs[k].s) := (hbel.cell (p := ⟨b1, _, none⟩) hl1).trans (hc1 5 (by decide))
      clear hc0 hc1
      generalize zs[k] = z at *
      go_wp2_with fail
      go_region_with (go_at_call 50; refine (eqEntry_self _ _ _ _ _ _ _).mono ?_; rintro e w1 ⟨rfl, k1⟩)
      all_goals
        have hbel1 := below_next hbel (below_next (Below.drew (Below.refl _ _)) k1)
        clear k1 hbel
        go_wp2_with fail
        refine ⟨⟨k + 1, by omega, by go_num, by first | exact hbel1 | exact hbel1.drew⟩, ?_⟩
        simp [intOf]; omega
    · go_wp2_with fail
      go_ret
      exact ⟨rfl, hbel⟩

end Go.Proofs.YtilldpoleiippaaDoor


/-! Contracts of Crc and of its reference: both give crcOf; condition: the text is shorter than 2^62 bytes. -/
namespace Go.Proofs.YtilldpoleiippaaDoor
open Go.RowKit

theorem take_snoc (s : ByteArray) (k : Nat) (h : k < s.size) : s.data.toList.take (k + 1) = s.data.toList.take k ++ [s[k]] := by
  rw [List.take_succ_eq_append_getElem (by simpa using h)]; rfl

set_option maxHeartbeats 1000000 in
theorem l7Crc_c (s : ByteArray) (w : World) (hs : s.size ≤ 4611686018427387904) :
    Calls Tryd.prog 119 #[.string s] w fun e w' => e = .returned (.int .i64 (crcOf s.data.toList)) ∧ w = w' := by
  go_enter Tryd.func119, Tryd.ntmps119
  go_wp2
  go_loop [3, 4] (fun c i => ∃ k : Nat, k ≤ s.size ∧ i = .int .i64 k ∧ c = .int .i64 (crcFold (s.data.toList.take k) 4294967295)) (fun _ i => s.size - (intOf i).toNat)
  case atStart => exact ⟨0, Nat.zero_le _, rfl, rfl⟩
  case round =>
    obtain ⟨k, hk, rfl, rfl⟩ := hrel
    have hc := crcFold_lt (s.data.toList.take k) (c := 4294967295) (by decide)
    by_cases hlt : k < s.size
    · have hts := take_snoc s k hlt
      have hsn := crcFold_snoc (s.data.toList.take k) s[k] 4294967295
      rw [← hts] at hsn
      have hb := s[k].toNat_lt
      have HX := i64_xor_nat (crcFold (s.data.toList.take k) 4294967295) s[k].toNat (by omega) (by omega)
      have hd := byte_lt s[k] hc
      generalize crcFold (s.data.toList.take k) 4294967295 ^^^ s[k].toNat = d at *
      have HS := Lib.hid hsn
      clear hsn hts
      go_wp2
      go_loop [3, 5] (fun c j => ∃ m : Nat, m ≤ 8 ∧ j = .int .i64 m ∧ c = .int .i64 (crcRun m d)) (fun _ j => 8 - (intOf j).toNat)
      case atStart => exact ⟨0, Nat.zero_le _, rfl, rfl⟩
      case round =>
        obtain ⟨m, hm, rfl, rfl⟩ := hrel
        by_cases hlm : m < 8
        · have hsucc := crcStep_two (crcRun m d)
          have hm32 := crcRun_lt (n := m) hd
          have hnext : crcRun (m + 1) d = crcStep (crcRun m d) := rfl
          rcases hsucc with ⟨hodd, hv⟩ | ⟨hodd, hv⟩
          all_goals
            rw [hv] at hnext
            have HN := Lib.hid hnext
            clear hnext hv
            generalize crcRun m d = c at *
          · have hp : ((c : Int) % 2 == 1) = true := by simp; omega
            have HY : bits .xor .i64 ((c : Int) / 2) 3988292384 = ((c / 2 ^^^ 3988292384 : Nat) : Int) := i64_xor_nat (c / 2) 3988292384 (by omega) (by omega)
            go_wp2
            go_round
            case rel => exact ⟨m + 1, by omega, by go_num, by rw [HN.out]⟩
            case measure => simp [intOf]; omega
          · have hp : ((c : Int) % 2 == 1) = false := by simp; omega
            go_wp2
            go_round
            case rel => exact ⟨m + 1, by omega, by go_num, by rw [HN.out]; go_num⟩
            case measure => simp [intOf]; omega
        · obtain rfl : m = 8 := by omega
          go_wp2
          go_round
          case rel => exact ⟨k + 1, by omega, by go_num, by rw [HS.out]⟩
          case measure => simp [intOf]; omega
    · obtain rfl : k = s.size := by omega
      have hts : s.data.toList.take s.size = s.data.toList := List.take_of_length_le (by simp)
      rw [hts] at hc ⊢
      have HX : bits .xor .i64 (crcFold s.data.toList 4294967295 : Int) 4294967295 = ((crcFold s.data.toList 4294967295 ^^^ 4294967295 : Nat) : Int) := i64_xor_nat (crcFold s.data.toList 4294967295) 4294967295 (by omega) (by omega)
      have HC : Hid (crcOf s.data.toList = crcFold s.data.toList 4294967295 ^^^ 4294967295) := rfl
      go_wp2
      go_ret
      exact ⟨ret_int (by rw [HC.out]), rfl⟩
set_option maxHeartbeats 1000000 in
theorem Crc_c (s : ByteArray) (w : World) (hs : s.size ≤ 4611686018427387904) :
    Calls Tryd.prog 104 #[.string s] w fun e w' => e = .returned (.int .i64 (crcOf s.data.toList)) ∧ w = w' := by
  go_enter Tryd.func104, Tryd.ntmps104
  go_wp2
  go_loop [3, 4] (fun c i => ∃ k : Nat, k ≤ s.size ∧ i = .int .i64 k ∧ c = .int .u32 (crcFold (s.data.toList.take k) 4294967295)) (fun _ i => s.size - (intOf i).toNat)
  case atStart => exact ⟨0, Nat.zero_le _, rfl, rfl⟩
  case round =>
    obtain ⟨k, hk, rfl, rfl⟩ := hrel
    have hc := crcFold_lt (s.data.toList.take k) (c := 4294967295) (by decide)
    by_cases hlt : k < s.size
    · have hts := take_snoc s k hlt
      have hsn := crcFold_snoc (s.data.toList.take k) s[k] 4294967295
      rw [← hts] at hsn
      have hb := s[k].toNat_lt
      have HX := u32_xor_nat (crcFold (s.data.toList.take k) 4294967295) s[k].toNat (by omega) (by omega)
      have hd := byte_lt s[k] hc
      generalize crcFold (s.data.toList.take k) 4294967295 ^^^ s[k].toNat = d at *
      have HS := Lib.hid hsn
      clear hsn hts
      go_wp2
      go_loop [3, 18] (fun c j => ∃ m : Nat, m ≤ 8 ∧ j = .int .i64 m ∧ c = .int .u32 (crcRun m d)) (fun _ j => 8 - (intOf j).toNat)
      case atStart => exact ⟨0, Nat.zero_le _, rfl, rfl⟩
      case round =>
        obtain ⟨m, hm, rfl, rfl⟩ := hrel
        by_cases hlm : m < 8
        · have hsucc := crcStep_two (crcRun m d)
          have hm32 := crcRun_lt (n := m) hd
          have hnext : crcRun (m + 1) d = crcStep (crcRun m d) := rfl
          rcases hsucc with ⟨hodd, hv⟩ | ⟨hodd, hv⟩
          all_goals
            rw [hv] at hnext
            have HN := Lib.hid hnext
            clear hnext hv
            generalize crcRun m d = c at *
          · have HA : bits .and .u32 (c : Int) 1 = 1 := by
              have := u32_and_nat c 1 (by omega) (by omega)
              rw [nat_mask1, hodd] at this
              exact this
            have HY : bits .xor .u32 ((c : Int) / 2) 3988292384 = ((c / 2 ^^^ 3988292384 : Nat) : Int) := u32_xor_nat (c / 2) 3988292384 (by omega) (by omega)
            go_wp2
            go_round
            case rel => exact ⟨m + 1, by omega, by go_num, by rw [HN.out]⟩
            case measure => simp [intOf]; omega
          · have HA : bits .and .u32 (c : Int) 1 = 0 := by
              have := u32_and_nat c 1 (by omega) (by omega)
              rw [nat_mask1, hodd] at this
              exact this
            go_wp2
            go_round
            case rel => exact ⟨m + 1, by omega, by go_num, by rw [HN.out]; go_num⟩
            case measure => simp [intOf]; omega
        · obtain rfl : m = 8 := by omega
          go_wp2
          go_round
          case rel => exact ⟨k + 1, by omega, by go_num, by rw [HS.out]⟩
          case measure => simp [intOf]; omega
    · obtain rfl : k = s.size := by omega
      have hts : s.data.toList.take s.size = s.data.toList := List.take_of_length_le (by simp)
      rw [hts] at hc ⊢
      have HX : bits .xor .u32 IntKind.u32.max (crcFold s.data.toList 4294967295 : Int) = ((4294967295 ^^^ crcFold s.data.toList 4294967295 : Nat) : Int) := by
        rw [show IntKind.u32.max = 4294967295 from by decide]
        exact u32_xor_nat 4294967295 (crcFold s.data.toList 4294967295) (by omega) (by omega)
      have HC : Hid (crcOf s.data.toList = 4294967295 ^^^ crcFold s.data.toList 4294967295) := Nat.xor_comm _ _
      have hlast : crcOf s.data.toList < 4294967296 := crcOf_lt s.data.toList
      rw [← HC.out] at HX
      go_wp2
      go_ret
      exact ⟨ret_int (IntWalk.wrap64_in _ ⟨by omega, by omega⟩), rfl⟩

end Go.Proofs.YtilldpoleiippaaDoor

/-! Ledgers, plainly: the sum of a row, how many rows are right, how many two lists share, how rows are written; no condition. -/
namespace Go.Proofs.YtilldpoleiippaaDoor
open Go.RowKit Go.Joins

/-- What the sum of a row is taken of. -/
def sumText (prev seq : Int) (r : Rq) : List UInt8 := Lib.itoa prev ++ [124] ++ Lib.itoa seq ++ [124] ++ reqPutL r
/-- The sum of a row: of the sum of the one ahead, its place, and what is done. -/
def sumL (prev seq : Int) (r : Rq) : Nat := crcOf (sumText prev seq r)
theorem sumL_lt (prev seq : Int) (r : Rq) : sumL prev seq r < 4294967296 := crcOf_lt _

def enAt (zs : List En) (k : Nat) : En := zs.getD k en0
theorem enAt_eq {zs : List En} {k : Nat} (h : k < zs.length) : enAt zs k = zs[k] := by
  unfold enAt; rw [List.getD_eq_getElem?_getD, List.getElem?_eq_getElem h]; rfl
/-- The sum of the row ahead; 0 at the first. -/
def prevAt (zs : List En) (k : Nat) : Int := if k = 0 then 0 else (enAt zs (k - 1)).s
/-- The row k is right, if all ahead of it are. -/
def rightAt (zs : List En) (k : Nat) : Bool := decide (k < 60) && good (enAt zs k).r && decide ((enAt zs k).s = (sumL (prevAt zs k) ((k : Int) + 1) (enAt zs k).r : Int))
/-- So many rows are right, from the first on. -/
def IsFar (zs : List En) (n : Nat) : Prop := n ≤ zs.length ∧ (∀ j, j < n → rightAt zs j = true) ∧ (n < zs.length → rightAt zs n = false)
theorem IsFar.uniq {zs : List En} {n m : Nat} (h : IsFar zs n) (k : IsFar zs m) : n = m := by
  rcases Nat.lt_trichotomy n m with q | q | q
  · have a := k.2.1 n q
    have b := h.2.2 (Nat.lt_of_lt_of_le q k.1)
    rw [a] at b; cases b
  · exact q
  · have a := h.2.1 m q
    have b := k.2.2 (Nat.lt_of_lt_of_le q h.1)
    rw [a] at b; cases b
def farAux (zs : List En) : Nat → Nat → Nat
  | 0, k => k
  | f + 1, k => if rightAt zs k then farAux zs f (k + 1) else k
/-- How many rows are right, from the first on. -/
def far (zs : List En) : Nat := farAux zs zs.length 0
theorem farAux_is (zs : List En) : ∀ (f k : Nat), k + f = zs.length → (∀ j, j < k → rightAt zs j = true) → IsFar zs (farAux zs f k)
  | 0, k, hk, h => ⟨by simp only [farAux]; omega, h, fun q => by simp only [farAux] at q; omega⟩
  | f + 1, k, hk, h => by
    unfold farAux
    split
    · rename_i hr
      exact farAux_is zs f (k + 1) (by omega) (fun j hj => by
        by_cases e : j = k
        · subst e; exact hr
        · exact h j (by omega))
    · rename_i hr
      exact ⟨by omega, h, fun _ => by simpa using hr⟩
theorem far_is (zs : List En) : IsFar zs (far zs) := farAux_is zs _ _ (by omega) (fun j hj => absurd hj (Nat.not_lt_zero j))
theorem far_eq {zs : List En} {n : Nat} (h : IsFar zs n) : far zs = n := (far_is zs).uniq h
theorem far_le (zs : List En) : far zs ≤ zs.length := (far_is zs).1
theorem right_lt {zs : List En} {k : Nat} (h : rightAt zs k = true) : k < 60 := by
  unfold rightAt at h
  simp only [Bool.and_eq_true, decide_eq_true_eq] at h
  exact h.1.1
theorem right_good {zs : List En} {k : Nat} (h : rightAt zs k = true) : good (enAt zs k).r = true := by
  unfold rightAt at h
  simp only [Bool.and_eq_true, decide_eq_true_eq] at h
  exact h.1.2
theorem right_sum {zs : List En} {k : Nat} (h : rightAt zs k = true) : (enAt zs k).s = (sumL (prevAt zs k) ((k : Int) + 1) (enAt zs k).r : Int) := by
  unfold rightAt at h
  simp only [Bool.and_eq_true, decide_eq_true_eq] at h
  exact h.2
theorem far_le60 (zs : List En) : far zs ≤ 60 := by
  by_cases h : far zs = 0
  · omega
  · have := right_lt ((far_is zs).2.1 (far zs - 1) (by omega))
    omega
/-- The sum ahead of a row is a sum, if all ahead are right. -/
theorem prevAt_bounds {zs : List En} {k : Nat} (h : ∀ j, j < k → rightAt zs j = true) : 0 ≤ prevAt zs k ∧ prevAt zs k < 4294967296 := by
  unfold prevAt
  split
  · omega
  · rw [right_sum (h (k - 1) (by omega))]
    have := sumL_lt (prevAt zs (k - 1)) (((k - 1 : Nat) : Int) + 1) (enAt zs (k - 1)).r
    omega
theorem prevAt_succ (zs : List En) (k : Nat) : prevAt zs (k + 1) = (enAt zs k).s := by simp [prevAt]
/-! What is right hangs on the rows up to it alone. -/
theorem right_congr {xs zs : List En} {k : Nat} (h : ∀ j, j ≤ k → enAt xs j = enAt zs j) : rightAt xs k = rightAt zs k := by
  unfold rightAt
  have h1 : prevAt xs k = prevAt zs k := by unfold prevAt; split; rfl; rw [h _ (by omega)]
  rw [h k (Nat.le_refl k), h1]
theorem enAt_take {zs : List En} {n j : Nat} (h : j < n) : enAt (zs.take n) j = enAt zs j := by
  unfold enAt; simp [List.getD_eq_getElem?_getD, List.getElem?_take_of_lt h]
theorem enAt_append {xs ys : List En} {j : Nat} (h : j < xs.length) : enAt (xs ++ ys) j = enAt xs j := by
  unfold enAt; simp [List.getD_eq_getElem?_getD, List.getElem?_append_left h]
theorem far_take {zs : List En} {m : Nat} (h : far zs ≤ m) (hm : m ≤ zs.length) : far (zs.take m) = far zs := by
  refine far_eq ⟨by simp; omega, fun j hj => ?_, fun hlt => ?_⟩
  · rw [right_congr (fun i hi => enAt_take (by omega))]; exact (far_is zs).2.1 j hj
  · have hlt' : far zs < m := by rw [List.length_take] at hlt; omega
    rw [right_congr (fun i hi => enAt_take (by omega))]; exact (far_is zs).2.2 (by omega)

/-! Two lists. -/
def IsMeet (xs ys : List En) (n : Nat) : Prop := n ≤ far xs ∧ n ≤ far ys ∧ (∀ j, j < n → enAt xs j = enAt ys j) ∧ (n < far xs → n < far ys → enAt xs n ≠ enAt ys n)
theorem IsMeet.uniq {xs ys : List En} {n m : Nat} (h : IsMeet xs ys n) (k : IsMeet xs ys m) : n = m := by
  rcases Nat.lt_trichotomy n m with q | q | q
  · exact absurd (k.2.2.1 n q) (h.2.2.2 (Nat.lt_of_lt_of_le q k.1) (Nat.lt_of_lt_of_le q k.2.1))
  · exact q
  · exact absurd (h.2.2.1 m q) (k.2.2.2 (Nat.lt_of_lt_of_le q h.1) (Nat.lt_of_lt_of_le q h.2.1))
def meetAux (xs ys : List En) : Nat → Nat → Nat
  | 0, k => k
  | f + 1, k => if enAt xs k = enAt ys k then meetAux xs ys f (k + 1) else k
/-- How many rows two lists have in common, of those that are right. -/
def meet (xs ys : List En) : Nat := meetAux xs ys (min (far xs) (far ys)) 0
theorem meetAux_is (xs ys : List En) : ∀ (f k : Nat), k + f = min (far xs) (far ys) → (∀ j, j < k → enAt xs j = enAt ys j) → IsMeet xs ys (meetAux xs ys f k)
  | 0, k, hk, h => ⟨by simp only [meetAux]; omega, by simp only [meetAux]; omega, h, fun q1 q2 => by simp only [meetAux] at q1 q2; omega⟩
  | f + 1, k, hk, h => by
    unfold meetAux
    split
    · rename_i hr
      exact meetAux_is xs ys f (k + 1) (by omega) (fun j hj => by
        by_cases e : j = k
        · subst e; exact hr
        · exact h j (by omega))
    · rename_i hr
      exact ⟨by omega, by omega, h, fun _ _ => hr⟩
theorem meet_is (xs ys : List En) : IsMeet xs ys (meet xs ys) := meetAux_is xs ys _ _ (by omega) (fun j hj => absurd hj (Nat.not_lt_zero j))
theorem meet_eq {xs ys : List En} {n : Nat} (h : IsMeet xs ys n) : meet xs ys = n := (meet_is xs ys).uniq h
theorem meet_comm (xs ys : List En) : meet ys xs = meet xs ys := by
  obtain ⟨h1, h2, h3, h4⟩ := meet_is xs ys
  exact meet_eq ⟨h2, h1, fun j hj => (h3 j hj).symm, fun q1 q2 e => h4 q2 q1 e.symm⟩
theorem meet_self (xs : List En) : meet xs xs = far xs := meet_eq ⟨Nat.le_refl _, Nat.le_refl _, fun _ _ => rfl, fun q => absurd q (Nat.lt_irrefl _)⟩

/-! Rows written. -/
def rowText (z : En) : List UInt8 := Lib.itoa z.s ++ [32] ++ reqPutL z.r ++ [10]
def rowsText (zs : List En) : List UInt8 := zs.flatMap rowText

/-! Rows of asks. -/
/-- The rows behind some rows, the last of which has the sum prev. -/
def ofAux (prev : Int) (k : Nat) : List Rq → List En
  | [] => []
  | r :: rs => ⟨r, sumL prev ((k : Int) + 1) r⟩ :: ofAux (sumL prev ((k : Int) + 1) r) (k + 1) rs
def rowsOf (rs : List Rq) : List En := ofAux 0 0 rs
/-- What LedgerOf gives. -/
def ledOf (rs : List Rq) : List En := if rs.length ≤ 60 ∧ rs.all good = true then rowsOf rs else []
theorem ofAux_length : ∀ (rs : List Rq) (p : Int) (k : Nat), (ofAux p k rs).length = rs.length
  | [], _, _ => rfl
  | r :: rs, p, k => by simp [ofAux, ofAux_length rs]
def lastSum (zs : List En) : Int := prevAt zs zs.length
/-- The last row's sum; p, if there is none. -/
def endSum (p : Int) (zs : List En) : Int := (zs.getLast?.map En.s).getD p
theorem endSum_cons (p : Int) (z : En) (zs : List En) : endSum p (z :: zs) = endSum z.s zs := by
  unfold endSum
  rw [List.getLast?_cons]
  cases zs.getLast? <;> rfl
theorem lastSum_end (zs : List En) : lastSum zs = endSum 0 zs := by
  unfold lastSum prevAt endSum enAt
  rw [List.getLast?_eq_getElem?]
  cases zs with
  | nil => rfl
  | cons z zs =>
    rw [if_neg (by simp), List.getD_eq_getElem?_getD]
    have h : (z :: zs).length - 1 < (z :: zs).length := by simp
    rw [List.getElem?_eq_getElem h]
    rfl
theorem lastSum_snoc (zs : List En) (z : En) : lastSum (zs ++ [z]) = z.s := by
  rw [lastSum_end]; unfold endSum; simp
theorem ofAux_snoc : ∀ (rs : List Rq) (p : Int) (k : Nat) (r : Rq), ofAux p k (rs ++ [r]) = ofAux p k rs ++ [⟨r, sumL (endSum p (ofAux p k rs)) (((k + rs.length : Nat) : Int) + 1) r⟩]
  | [], p, k, r => rfl
  | q :: rs, p, k, r => by
    simp only [List.cons_append, ofAux, ofAux_snoc rs, endSum_cons]
    have e : k + 1 + rs.length = k + (q :: rs).length := by rw [List.length_cons]; omega
    rw [e]
theorem rowsOf_snoc (rs : List Rq) (r : Rq) : rowsOf (rs ++ [r]) = rowsOf rs ++ [⟨r, sumL (lastSum (rowsOf rs)) ((rs.length : Int) + 1) r⟩] := by
  unfold rowsOf
  rw [ofAux_snoc, lastSum_end, Nat.zero_add]
/-- A right row more. -/
theorem far_snoc {zs : List En} {r : Rq} (h : far zs = zs.length) (h60 : zs.length < 60) (hg : good r = true) : far (zs ++ [⟨r, sumL (lastSum zs) ((zs.length : Int) + 1) r⟩]) = zs.length + 1 := by
  have hl : enAt (zs ++ [⟨r, sumL (lastSum zs) ((zs.length : Int) + 1) r⟩]) zs.length = ⟨r, sumL (lastSum zs) ((zs.length : Int) + 1) r⟩ := by simp [enAt]
  refine far_eq ⟨by simp, fun j hj => ?_, fun q => by simp at q⟩
  by_cases e : j = zs.length
  · subst e
    have hp : prevAt (zs ++ [⟨r, sumL (lastSum zs) ((zs.length : Int) + 1) r⟩]) zs.length = lastSum zs := by
      unfold lastSum prevAt
      split
      · rfl
      · rw [enAt_append (by omega)]
    unfold rightAt
    rw [hl, hp]
    simp [h60, hg]
  · rw [right_congr (fun i hi => enAt_append (by omega))]
    exact (far_is zs).2.1 j (by omega)
theorem far_rowsOf (rs : List Rq) (h60 : rs.length ≤ 60) (hg : rs.all good = true) : far (rowsOf rs) = rs.length := by
  have key : ∀ n, n ≤ rs.length → far (rowsOf (rs.take n)) = n := by
    intro n
    induction n with
    | zero => intro _; simp [rowsOf, ofAux, far, farAux]
    | succ n ih =>
      intro hn
      have e : rs.take (n + 1) = rs.take n ++ [rs[n]] := List.take_succ_eq_append_getElem (by omega)
      have hl : (rowsOf (rs.take n)).length = n := by unfold rowsOf; rw [ofAux_length]; simp; omega
      have hl2 : (rs.take n).length = n := by simp; omega
      rw [e, rowsOf_snoc]
      have := far_snoc (zs := rowsOf (rs.take n)) (r := rs[n]) (by rw [ih (by omega), hl]) (by omega) (by rw [List.all_eq_true] at hg; exact hg _ (List.getElem_mem _))
      rw [hl] at this
      rw [hl2]
      exact this
  have := key rs.length (Nat.le_refl _)
  rwa [List.take_length] at this
end Go.Proofs.YtilldpoleiippaaDoor

/-! Regions that draw their order and whose callees lay blocks: contracts and blocks over every world of the class; no condition. -/
namespace Go.Proofs.YtilldpoleiippaaDoor
open Go.RowKit Go.Joins

theorem quietC {P : Program} {f : FuncId} {args : Array Value} {w : World} {v : Value} (h : ∀ W, Below w.heap.size w W → Calls P f args W fun e w' => e = .returned v ∧ Below W.heap.size W w') :
    ∀ d os, Calls P f args (Sort.grow (redrawn w d) os) fun e w'' => e = .returned v ∧ ∃ p : Regrown, w'' = Sort.grow (redrawn w p.d) p.os := fun d os => Calls.regrown_of (h _ (below_regrown w d os))
theorem cellRe {w : World} {b : Nat} {cs : Array Value} {t : TypeId} {fr : Nat × Nat} (h : w.heap[b]? = some (.cells cs t fr)) (d : Nat) (os : Array Obj) (i : Nat) : (Sort.grow (redrawn w d) os).cell? ⟨b, i, none⟩ = cs[i]? :=
  ((below_regrown w d os).cell (p := ⟨b, i, none⟩) (lt_of_block h)).trans (cell_of_block h i)
end Go.Proofs.YtilldpoleiippaaDoor
