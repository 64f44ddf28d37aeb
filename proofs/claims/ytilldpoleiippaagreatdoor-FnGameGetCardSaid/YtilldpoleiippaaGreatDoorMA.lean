/- Small lemmas on worlds that this seat's texts share; no condition. | The arguments of the laws opened: integers, strings, bytes, requests; no condition. | New blocks under names of their own: the world behind one to four allocations; blocks carried over calls; no condition. | Slices whose elements are rows of cells: what is known of one that came in, of one in a block of its own; the arguments that hold such slices opened; no condition. | Elements of slices read at their places; no condition. | Slices that the program made itself: their rows kept, cut, appended to, stored into; condition: small sizes. | Contracts of the functions on requests (in, ReqOk and their kin); no condition. | Contracts of the functions that copy a law's slices (toIntS, toEntS, toReqS), that weigh and that compare them; condition: at most 2^20 elements. | Contracts of toReqS and toEntS, that copy slices of structs of five integers; condition: at most 2^20 elements. | Contracts of the functions that weigh (szXS) and compare (eqXS) slices of integers and of structs of five; eqXS: of two that are alike; no condition. | The checksum as a function on lists of bytes, and that one turned byte turns it: plain arithmetic, no program; no condition. | '==' and '!=' between two requests, as one test; no condition. | Contracts of l1Dec (decimals), l1Words, l1None, l1Put and the reference's ReqPut; condition: 64-bit numbers. | Contracts of l1Words, l1Put and the reference's ReqPut; condition: 64-bit numbers. | Contracts of okOrNull and allOk, with slices.ContainsFunc and IndexFunc at their closure; no condition. | Contracts of l1None and of the reference's ReqPut; condition: 64-bit numbers far from the ends. | When a game is ok, as a plain function; no program; no condition. | Texts cut at a byte and glued again; numerals read back; no program; no condition. | Rows of texts: appends of one; no program's contract; no condition. | Regions that draw their order and whose callees lay blocks: contracts and blocks over every world of the class; no condition. | How a game is written, and what is read of a text as a game, as a relation; no program; no condition. | What is read of a text as a game: the reference's pieces and the program's; no program; no condition. -/
import Derived.Test.YtilldpoleiippaaGreatDoorRows
import Derived.WalkKit
import Derived.WalkSpells
import Derived.WalkLawsBesides
import Derived.Lib.Hide
import Derived.Deep.RegionHeld3
import Derived.Deep.DeepCutAuto
import Derived.Outline
import Derived.ProofKit
import Derived.OpenShut
import Derived.ShutString
import Derived.Lib.SmallJoins
import Derived.Deep.Slices
import Derived.Deep.Fields
import Derived.Deep.AppendSrc
import Derived.Laws.AppendOwn
import Derived.OwnWalk
import Derived.LoopTactic
import Derived.Lib.ItoaNum
import Derived.Lib.ItoaLen
import Derived.Laws.BytesArg
import Derived.Lib.SplitLaws
import Derived.Lib.AtoiOr
import Derived.Lib.AtoiAll
import Derived.Lib.QuietBelow
import Derived.BigQuiet
import Derived.Lib.CutLaws
set_option linter.unusedSimpArgs false
set_option linter.unusedVariables false
/-! Small lemmas on worlds that this seat's texts share; no condition. -/
namespace Go.Proofs.YtilldpoleiippaaGreatDoor
open Go.RowKit

theorem ret_bool {a b : Bool} (h : a = b) : Ending.returned (.bool a) = .returned (.bool b) := by rw [h]
theorem ret_int {k : IntKind} {a b : Int} (h : a = b) : Ending.returned (.int k a) = .returned (.int k b) := by rw [h]

/-- Old cells and old marks read as before. -/
theorem bcell {W w1 : World} (hb : Below W.heap.size W w1) : (∀ b o, b < W.heap.size → w1.cell? ⟨b, o, none⟩ = W.cell? ⟨b, o, none⟩) ∧ (∀ b o, b < W.heap.size → w1.frozen? ⟨b, o, none⟩ = W.frozen? ⟨b, o, none⟩) :=
  ⟨fun b o h => hb.cell (p := ⟨b, o, none⟩) h, fun b o h => hb.frozen (p := ⟨b, o, none⟩) h⟩

/-- From one call to the next. -/
theorem below_next {a b c : World} (h : Below a.heap.size a b) (k : Below b.heap.size b c) : Below a.heap.size a c := h.trans (k.mono h.size)

theorem below_drewN {B : Nat} {a w : World} (h : Below B a w) (n : Nat) : Below B a (w.drewN n) := ⟨h.os, h.tape, h.output, h.size, h.block⟩

/-! What go_region_held3 is told: below B the world is as W was. -/
theorem Kept.start {B : Nat} (W : World) : (∀ b o, b < B → W.drew.cell? ⟨b, o, none⟩ = W.cell? ⟨b, o, none⟩) ∧ Below W.heap.size W W.drew := ⟨fun _ _ _ => rfl, Below.drew (Below.refl _ _)⟩
theorem Kept.refl {B : Nat} (W : World) : (∀ b o, b < B → W.cell? ⟨b, o, none⟩ = W.cell? ⟨b, o, none⟩) ∧ Below W.heap.size W W := ⟨fun _ _ _ => rfl, Below.refl _ _⟩
theorem Kept.drew {B : Nat} {W w1 : World} (h : (∀ b o, b < B → w1.cell? ⟨b, o, none⟩ = W.cell? ⟨b, o, none⟩) ∧ Below W.heap.size W w1) :
    (∀ b o, b < B → w1.drew.cell? ⟨b, o, none⟩ = W.cell? ⟨b, o, none⟩) ∧ Below W.heap.size W w1.drew := ⟨h.1, h.2.drew⟩
theorem Kept.next {B : Nat} {W w1 w2 : World} (hB : B ≤ W.heap.size) (h : (∀ b o, b < B → w1.cell? ⟨b, o, none⟩ = W.cell? ⟨b, o, none⟩) ∧ Below W.heap.size W w1) (k : Below w1.heap.size w1 w2) :
    (∀ b o, b < B → w2.cell? ⟨b, o, none⟩ = W.cell? ⟨b, o, none⟩) ∧ Below W.heap.size W w2 :=
  ⟨fun b o hb => (k.cell (p := ⟨b, o, none⟩) (Nat.lt_of_lt_of_le hb (Nat.le_trans hB h.2.size))).trans (h.1 b o hb), below_next h.2 k⟩
theorem Kept.alloc {B : Nat} {W w1 : World} (hB : B ≤ W.heap.size) (x : Obj) (h : (∀ b o, b < B → w1.cell? ⟨b, o, none⟩ = W.cell? ⟨b, o, none⟩) ∧ Below W.heap.size W w1) :
    (∀ b o, b < B → (w1.alloc x).cell? ⟨b, o, none⟩ = W.cell? ⟨b, o, none⟩) ∧ Below W.heap.size W (w1.alloc x) :=
  Kept.next hB h ((Below.refl _ _).alloc (Nat.le_refl _) x)

/-! A request: five numbers. -/
structure Rq where
  c : Int
  n : Int
  o : Int
  x : Int
  y : Int
deriving DecidableEq

def Rq.v (r : Rq) : Value := .agg #[.int .i64 r.c, .int .i64 r.n, .int .i64 r.o, .int .i64 r.x, .int .i64 r.y]
def Rq.cs (r : Rq) : List Value := [.int .i64 r.c, .int .i64 r.n, .int .i64 r.o, .int .i64 r.x, .int .i64 r.y]

/-- lo ≤ n ≤ hi -/
def inB (n lo hi : Int) : Bool := decide (lo ≤ n) && decide (n ≤ hi)
theorem inB_iff (n lo hi : Int) : inB n lo hi = true ↔ lo ≤ n ∧ n ≤ hi := by simp [inB]
theorem inB_not (n lo hi : Int) : inB n lo hi = false ↔ n < lo ∨ hi < n := by
  rw [← Bool.not_eq_true, inB_iff]; omega

/-- A valid request. -/
def okB (c n o x y : Int) : Bool :=
  inB c 1 4 && inB n 1 30 &&
    (if o = 1 ∨ o = 3 then x == 0 && y == 0
     else if o = 2 then inB x (-1) 1 && inB y (-1) 1
     else if o = 4 then inB x 1 4 && y == 0
     else if o = 5 then inB x 1 4 && inB y 1 9
     else false)
end Go.Proofs.YtilldpoleiippaaGreatDoor

/-! The arguments of the laws opened: integers, strings, bytes, requests; no condition. -/
namespace Go.Proofs.YtilldpoleiippaaGreatDoor
open Go.WideShapes Go.ChangeAt Go.RowKit Go.Deep

/-- Five numbers in five cells. -/
def IsRq (v : Value) (r : Rq) : Prop := v = .agg #[.int .i64 r.c, .int .i64 r.n, .int .i64 r.o, .int .i64 r.x, .int .i64 r.y]

/-- Bytes that came in. -/
structure Bts where
  a : Option Addr
  len : Nat
  cap : Nat
def IsBytes (w : World) (v : Value) (z : Bts) : Prop :=
  v = .slice z.a z.len z.cap ∧ z.len ≤ z.cap ∧ z.cap ≤ maxLen ∧
    ∀ i, i < z.len → ∃ (b off : Nat) (x : Int), z.a = some ⟨b, off, none⟩ ∧ b < w.heap.size ∧ 0 ≤ x ∧ x ≤ 255 ∧ w.cell? ⟨b, off + i, none⟩ = some (.int .u8 x)

section
variable {H : Type} {P : Program} {enc : TypeId × Value → H} {w : World} {base b0 : Nat} {spare : Nat → Bool} {held : Bool} {r : Reach} {v : Value} {d : DataW H} {p : List MemPlace}

set_option maxRecDepth 100000 in
theorem open_string (hv : Value.okWide Tryz.prog w r b0 9 v) (h : DataW.Trod enc Tryz.prog w base spare held 9 v d p) : ∃ s : ByteArray, v = .string s := by
  obtain ⟨s, e, _⟩ := Go.ChangeMaps.open_string Tryz.underlying9 hv h
  exact ⟨s, e⟩
set_option maxRecDepth 100000 in
theorem open_int (hv : Value.okWide Tryz.prog w r b0 3 v) (h : DataW.Trod enc Tryz.prog w base spare held 3 v d p) : ∃ n : Int, v = .int .i64 n := by
  obtain ⟨n, e, _⟩ := Go.ChangeShapes.open_int Tryz.underlying3 hv h
  exact ⟨n, e⟩

theorem byte_wf {x : Int} (h : (Lit.int .u8 x).wf = true) : 0 ≤ x ∧ x ≤ 255 := by
  simp [Lit.wf, IntKind.min, IntKind.max, IntKind.signed, IntKind.bits] at h
  omega

theorem bytes_of {t e : TypeId} (ht : P.underlying t = some (.slice e)) (he : P.underlying e = some (.int .u8)) (hC : P.cellsOf e = 1)
    (hv : Value.okWide P w r b0 t v) (h : DataW.Trod enc P w base spare held t v d p) : ∃ z : Bts, IsBytes w v z := by
  obtain ⟨a, len, cap, rfl⟩ := okWide_slice ht hv
  obtain ⟨fuel, hf⟩ := h
  rcases Go.ChangeShapes.open_ints ht he hC hf with ⟨hcs, _⟩ | ⟨x, l, c, zs, hcs, _, hl, hm, hz, _, hcell, hwz⟩
  · simp [Value.cells] at hcs
    obtain ⟨rfl, rfl, rfl⟩ := hcs
    exact ⟨⟨none, 0, 0⟩, rfl, Nat.le_refl _, by simp [maxLen], fun i hi => absurd hi (Nat.not_lt_zero i)⟩
  · simp [Value.cells] at hcs
    obtain ⟨rfl, rfl, rfl⟩ := hcs
    refine ⟨⟨some x, len, cap⟩, rfl, hl, hm, fun i hi => ?_⟩
    have hlz : len ≤ zs.length := by rw [hz]; split <;> simp_all
    have hi : i < len := hi
    obtain ⟨b, off, rfl, hc⟩ := ints_at hcell (by omega)
    have hci := hc i (Nat.lt_of_lt_of_le hi hlz)
    refine ⟨b, off, zs.getD i 0, rfl, World.block_lt_of_cell? w _ hci, ?_, ?_, hci⟩
    · have hm : zs.getD i 0 ∈ zs := by
        rw [List.getD_eq_getElem?_getD, List.getElem?_eq_getElem (Nat.lt_of_lt_of_le hi hlz)]; simp
      exact (byte_wf (hwz _ hm)).1
    · have hm : zs.getD i 0 ∈ zs := by
        rw [List.getD_eq_getElem?_getD, List.getElem?_eq_getElem (Nat.lt_of_lt_of_le hi hlz)]; simp
      exact (byte_wf (hwz _ hm)).2

set_option maxRecDepth 100000 in
theorem open_bytes (hv : Value.okWide Tryz.prog w r b0 22 v) (h : DataW.Trod enc Tryz.prog w base spare held 22 v d p) : ∃ z : Bts, IsBytes w v z :=
  bytes_of Tryz.underlying22 Tryz.underlying5 (by kernel_rfl) hv h

theorem five_ints {t : TypeId} {cs : List Value} {fuel : Nat} {x : DataW H × List MemPlace} {f0 f1 f2 f3 f4 : Field}
    (hs : P.underlying t = some (.struct #[f0, f1, f2, f3, f4])) (hone : oneCellFields P #[f0, f1, f2, f3, f4] = true)
    (e0 : P.underlying f0.type = some (.int .i64)) (e1 : P.underlying f1.type = some (.int .i64)) (e2 : P.underlying f2.type = some (.int .i64)) (e3 : P.underlying f3.type = some (.int .i64)) (e4 : P.underlying f4.type = some (.int .i64))
    (hC : P.cellsOf t = 5) (h : DataW.trod enc P w base spare held fuel t cs = some x) :
    ∃ z : Rq, cs = z.cs := by
  obtain ⟨xs, n, _, _, hlc, hlen, hg⟩ := DataW.trod_struct hs h
  rw [hC] at hlc
  match cs, hlc with
  | [c0, c1, c2, c3, c4], _ =>
    obtain ⟨o0, k0⟩ := hone_of hone 0 f0 rfl
    obtain ⟨o1, k1⟩ := hone_of hone 1 f1 rfl
    obtain ⟨o2, k2⟩ := hone_of hone 2 f2 rfl
    obtain ⟨o3, k3⟩ := hone_of hone 3 f3 rfl
    obtain ⟨o4, k4⟩ := hone_of hone 4 f4 rfl
    match xs, hlen with
    | [y0, y1, y2, y3, y4], _ =>
      have g0 := hg 0 f0 rfl
      have g1 := hg 1 f1 rfl
      have g2 := hg 2 f2 rfl
      have g3 := hg 3 f3 rfl
      have g4 := hg 4 f4 rfl
      rw [o0, k0] at g0
      rw [o1, k1] at g1
      rw [o2, k2] at g2
      rw [o3, k3] at g3
      rw [o4, k4] at g4
      obtain ⟨a0, q0, _, _⟩ := DataW.trod_int e0 g0
      obtain ⟨a1, q1, _, _⟩ := DataW.trod_int e1 g1
      obtain ⟨a2, q2, _, _⟩ := DataW.trod_int e2 g2
      obtain ⟨a3, q3, _, _⟩ := DataW.trod_int e3 g3
      obtain ⟨a4, q4, _, _⟩ := DataW.trod_int e4 g4
      simp at q0 q1 q2 q3 q4
      subst q0 q1 q2 q3 q4
      exact ⟨⟨a0, a1, a2, a3, a4⟩, rfl⟩

end
end Go.Proofs.YtilldpoleiippaaGreatDoor

/-! New blocks under names of their own: the world behind one to four allocations; blocks carried over calls; no condition. -/
namespace Go.Proofs.YtilldpoleiippaaGreatDoor
open Go.RowKit Go.Joins

theorem blocks1 (w : World) (A : Obj) : ∃ W, W = w.alloc A ∧ W.heap.size = w.heap.size + 1 ∧ W.heap[w.heap.size]? = some A ∧ Below w.heap.size w W :=
  ⟨_, rfl, by simp, heap_alloc_new w A, (Below.refl _ _).alloc (Nat.le_refl _) _⟩
theorem blocks2 (w : World) (A B : Obj) : ∃ W, W = (w.alloc A).alloc B ∧ W.heap.size = w.heap.size + 2 ∧ W.heap[w.heap.size]? = some A ∧ W.heap[w.heap.size + 1]? = some B ∧ Below w.heap.size w W := by
  obtain ⟨W1, h1, s1, a1, k1⟩ := blocks1 w A
  obtain ⟨W2, h2, s2, a2, k2⟩ := blocks1 W1 B
  refine ⟨W2, by rw [h2, h1], by omega, ?_, by rw [← s1]; exact a2, k1.trans (k2.mono (by omega))⟩
  rw [k2.block _ (by omega)]; exact a1
theorem blocks3 (w : World) (A B C : Obj) : ∃ W, W = ((w.alloc A).alloc B).alloc C ∧ W.heap.size = w.heap.size + 3 ∧ W.heap[w.heap.size]? = some A ∧ W.heap[w.heap.size + 1]? = some B ∧ W.heap[w.heap.size + 2]? = some C ∧ Below w.heap.size w W := by
  obtain ⟨W1, h1, s1, a1, b1, k1⟩ := blocks2 w A B
  obtain ⟨W2, h2, s2, a2, k2⟩ := blocks1 W1 C
  refine ⟨W2, by rw [h2, h1], by omega, ?_, ?_, by rw [← s1]; exact a2, k1.trans (k2.mono (by omega))⟩
  · rw [k2.block _ (by omega)]; exact a1
  · rw [k2.block _ (by omega)]; exact b1
theorem blocks4 (w : World) (A B C D : Obj) : ∃ W, W = (((w.alloc A).alloc B).alloc C).alloc D ∧ W.heap.size = w.heap.size + 4 ∧ W.heap[w.heap.size]? = some A ∧ W.heap[w.heap.size + 1]? = some B ∧ W.heap[w.heap.size + 2]? = some C ∧ W.heap[w.heap.size + 3]? = some D ∧ Below w.heap.size w W := by
  obtain ⟨W1, h1, s1, a1, b1, c1, k1⟩ := blocks3 w A B C
  obtain ⟨W2, h2, s2, a2, k2⟩ := blocks1 W1 D
  refine ⟨W2, by rw [h2, h1], by omega, ?_, ?_, ?_, by rw [← s1]; exact a2, k1.trans (k2.mono (by omega))⟩
  · rw [k2.block _ (by omega)]; exact a1
  · rw [k2.block _ (by omega)]; exact b1
  · rw [k2.block _ (by omega)]; exact c1

/-- A block that was there is there still. -/
theorem carryB {W w1 : World} {B b : Nat} {o : Obj} (k : Below B W w1) (hb : b < B) (h : W.heap[b]? = some o) : w1.heap[b]? = some o := (k.block b hb).trans h

theorem IsBytes.below {w w' : World} {v : Value} {z : Bts} (h : IsBytes w v z) (k : Below w.heap.size w w') : IsBytes w' v z := by
  obtain ⟨h1, h2, h3, h4⟩ := h
  refine ⟨h1, h2, h3, fun i hi => ?_⟩
  obtain ⟨b, off, x, q1, q2, q3, q4, q5⟩ := h4 i hi
  exact ⟨b, off, x, q1, Nat.lt_of_lt_of_le q2 k.size, q3, q4, by rw [k.cell (p := ⟨b, off + i, none⟩) q2]; exact q5⟩
end Go.Proofs.YtilldpoleiippaaGreatDoor

/-! Slices whose elements are rows of cells: what is known of one that came in, of one in a block of its own; the arguments that hold such slices opened; no condition. -/
namespace Go.Proofs.YtilldpoleiippaaGreatDoor
open Go.WideShapes Go.ChangeAt Go.RowKit Go.Deep Go.Joins

/-- The element number i lies at its place, cell by cell. -/
def RowsAt {α : Type} (w : World) (a : Option Addr) (k : Nat) (R : α → List Value) (zs : List α) : Prop :=
  ∀ i (h : i < zs.length), ∃ b off, a = some ⟨b, off, none⟩ ∧ b < w.heap.size ∧ ∀ j, j < k → w.cell? ⟨b, off + i * k + j, none⟩ = (R zs[i])[j]?
/-- A slice of such elements. -/
def IsSl {α : Type} (w : World) (v : Value) (k : Nat) (R : α → List Value) (zs : List α) : Prop :=
  ∃ a cap, v = .slice a zs.length cap ∧ zs.length ≤ cap ∧ cap ≤ maxLen ∧ RowsAt w a k R zs
/-- The row of an integer. -/
def intR (n : Int) : List Value := [.int .i64 n]
/-- A block with the elements' cells, one behind the other. -/
def flat {α : Type} (R : α → List Value) (zs : List α) : Array Value := (zs.flatMap R).toArray

theorem RowsAt.below {α : Type} {w w' : World} {a : Option Addr} {k : Nat} {R : α → List Value} {zs : List α} (h : RowsAt w a k R zs) (hb : Below w.heap.size w w') : RowsAt w' a k R zs := by
  intro i hi
  obtain ⟨b, off, e, hlt, hc⟩ := h i hi
  exact ⟨b, off, e, Nat.lt_of_lt_of_le hlt hb.size, fun j hj => (hb.cell (p := ⟨b, _, none⟩) hlt).trans (hc j hj)⟩
theorem IsSl.below {α : Type} {w w' : World} {v : Value} {k : Nat} {R : α → List Value} {zs : List α} (h : IsSl w v k R zs) (hb : Below w.heap.size w w') : IsSl w' v k R zs := by
  obtain ⟨a, cap, e, h1, h2, h3⟩ := h
  exact ⟨a, cap, e, h1, h2, h3.below hb⟩

theorem flat_get {α : Type} {R : α → List Value} {k : Nat} (hR : ∀ z, (R z).length = k) : ∀ (zs : List α) (i : Nat) (h : i < zs.length) (j : Nat), j < k → (flat R zs)[i * k + j]? = (R zs[i])[j]? := by
  intro zs
  induction zs with
  | nil => intro i h; cases h
  | cons z zs ih =>
    intro i h j hj
    cases i with
    | zero =>
      simp only [flat, List.flatMap_cons, Nat.zero_mul, Nat.zero_add, List.getElem_cons_zero]
      rw [List.getElem?_toArray, List.getElem?_append_left (by rw [hR]; exact hj)]
    | succ i =>
      have := ih i (by simpa using h) j hj
      simp only [flat, List.flatMap_cons, List.getElem_cons_succ] at this ⊢
      rw [List.getElem?_toArray] at this ⊢
      rw [List.getElem?_append_right (by rw [hR, Nat.succ_mul]; omega), hR, ← this]
      congr 1
      rw [Nat.succ_mul]; omega
theorem flat_size {α : Type} {R : α → List Value} {k : Nat} (hR : ∀ z, (R z).length = k) (zs : List α) : (flat R zs).size = zs.length * k := by
  induction zs with
  | nil => simp [flat]
  | cons z zs ih =>
    simp only [flat, List.flatMap_cons, List.size_toArray, List.length_append, hR, List.length_cons] at ih ⊢
    rw [ih, Nat.succ_mul]; omega

/-- A block of its own is such a slice. -/
theorem rows_of_block {α : Type} {w : World} {B : Nat} {R : α → List Value} {k : Nat} {zs : List α} {t : TypeId} {fr : Nat × Nat} (hR : ∀ z, (R z).length = k) (h : w.heap[B]? = some (.cells (flat R zs) t fr)) :
    RowsAt w (some ⟨B, 0, none⟩) k R zs := by
  intro i hi
  refine ⟨B, 0, rfl, lt_of_block h, fun j hj => ?_⟩
  rw [cell_of_block h, Nat.zero_add]
  exact flat_get hR zs i hi j hj

section
variable {H : Type} {P : Program} {enc : TypeId × Value → H} {w : World} {base b0 : Nat} {spare : Nat → Bool} {held : Bool} {r : Reach} {v : Value} {d : DataW H} {p : List MemPlace}

theorem choose_list {α : Type} {n : Nat} {Q : Nat → α → Prop} (h : ∀ i, i < n → ∃ z, Q i z) : ∃ zs : List α, zs.length = n ∧ ∀ i (hi : i < zs.length), Q i zs[i] := by
  induction n with
  | zero => exact ⟨[], rfl, fun i hi => absurd hi (Nat.not_lt_zero i)⟩
  | succ n ih =>
    obtain ⟨zs, hl, hz⟩ := ih (fun i hi => h i (by omega))
    obtain ⟨z, hq⟩ := h n (by omega)
    refine ⟨zs ++ [z], by simp [hl], fun i hi => ?_⟩
    by_cases hin : i < zs.length
    · rw [List.getElem_append_left hin]; exact hz i hin
    · have : i = zs.length := by simp at hi; omega
      subst this
      simpa [hl] using hq

/-- A slice that came in, opened: its elements, each read by 'hel'. -/
theorem open_rows {α : Type} {t e : TypeId} {R : α → List Value} {k fuel : Nat} {c : Value} {x : DataW H × List MemPlace} (ht : P.underlying t = some (.slice e)) (hC : P.cellsOf e = k) (hk : 0 < k)
    (hel : ∀ n cs y, DataW.trod enc P w base spare held n e cs = some y → ∃ z : α, cs = R z) (h : DataW.trod enc P w base spare held fuel t [c] = some x) : ∃ zs : List α, IsSl w c k R zs := by
  rcases open_slice ht h with ⟨hcs, _⟩ | ⟨a, len, cap, m, n, D, Pl, hcs, _, hl, hm, hmm, _, hi⟩
  · simp at hcs
    subst hcs
    exact ⟨[], none, 0, rfl, Nat.le_refl _, by simp [maxLen], fun i hi => absurd hi (Nat.not_lt_zero i)⟩
  · simp at hcs
    subst hcs
    have hlm : len ≤ m := by rw [hmm]; split <;> omega
    obtain ⟨zs, hzl, hz⟩ := choose_list (α := α) (n := len) (Q := fun i z => w.cells? base (a.add (i * k)) k = some (R z)) (fun i hil => by
      obtain ⟨cs', hc, ht'⟩ := hi i (by omega)
      rw [hC] at hc
      obtain ⟨z, hz⟩ := hel _ _ _ ht'
      exact ⟨z, by rw [hc, hz]⟩)
    subst hzl
    refine ⟨zs, some a, cap, rfl, hl, hm, fun i hil => ?_⟩
    obtain ⟨_, hcl, hat⟩ := World.cells?_some (hz i hil)
    obtain ⟨b, off, spot⟩ := a
    have hspot : spot = none := by
      obtain ⟨_, hcl0, hat0⟩ := World.cells?_some (hz 0 (by omega))
      have h0 := hat0 0 hk
      rw [List.getElem?_eq_getElem (by omega)] at h0
      simpa [Addr.add] using World.cell?_spot h0
    subst hspot
    have hat' : ∀ j, j < k → w.cell? ⟨b, off + i * k + j, none⟩ = (R zs[i])[j]? := fun j hj => by
      have := hat j hj
      rwa [Go.WideShapes.add_plain, Go.WideShapes.add_plain] at this
    refine ⟨b, off, rfl, ?_, hat'⟩
    have h1 := hat' 0 hk
    rw [List.getElem?_eq_getElem (by omega)] at h1
    exact World.block_lt_of_cell? w _ h1

theorem int_el {e : TypeId} (he : P.underlying e = some (.int .i64)) (n : Nat) (cs : List Value) (y : DataW H × List MemPlace) (h : DataW.trod enc P w base spare held n e cs = some y) : ∃ z : Int, cs = intR z := by
  obtain ⟨a, q, _, _⟩ := DataW.trod_int he h
  exact ⟨a, q⟩

/-- A game that came in. -/
structure Gm where
  es : List Rq
  fl : List Int
  la : List Int
def IsGm (w : World) (v : Value) (g : Gm) : Prop := ∃ v0 v1 v2, v = .agg #[v0, v1, v2] ∧ IsSl w v0 5 Rq.cs g.es ∧ IsSl w v1 1 intR g.fl ∧ IsSl w v2 1 intR g.la
/-- A client that is ahead. -/
structure Ah where
  dn : List Rq
  wt : List Rq
  bk : Int
def IsAh (w : World) (v : Value) (g : Ah) : Prop := ∃ v0 v1, v = .agg #[v0, v1, .int .i64 g.bk] ∧ IsSl w v0 5 Rq.cs g.dn ∧ IsSl w v1 5 Rq.cs g.wt

theorem three_fields {t : TypeId} {f0 f1 f2 : Field} (hs : P.underlying t = some (.struct #[f0, f1, f2])) (hone : oneCellFields P #[f0, f1, f2] = true) (hC : P.cellsOf t = 3)
    (hv : Value.okWide P w r b0 t v) (h : DataW.Trod enc P w base spare held t v d p) :
    ∃ (v0 v1 v2 : Value) (y0 y1 y2 : DataW H × List MemPlace) (n : Nat), v = .agg #[v0, v1, v2] ∧ DataW.trod enc P w base spare held n f0.type [v0] = some y0 ∧ DataW.trod enc P w base spare held n f1.type [v1] = some y1 ∧ DataW.trod enc P w base spare held n f2.type [v2] = some y2 := by
  obtain ⟨cs, rfl, hsz⟩ := okWide_struct hs hv
  obtain ⟨l⟩ := cs
  match l, hsz.trans hC with
  | [c0, c1, c2], _ =>
    obtain ⟨fuel, hf⟩ := h
    obtain ⟨xs, n, _, _, _, hlen, hg⟩ := DataW.trod_struct hs hf
    obtain ⟨o0, k0⟩ := hone_of hone 0 f0 rfl
    obtain ⟨o1, k1⟩ := hone_of hone 1 f1 rfl
    obtain ⟨o2, k2⟩ := hone_of hone 2 f2 rfl
    match xs, hlen with
    | [y0, y1, y2], _ =>
      exact ⟨c0, c1, c2, y0, y1, y2, n, rfl, by simpa [Value.cells, o0, k0] using hg 0 f0 rfl, by simpa [Value.cells, o1, k1] using hg 1 f1 rfl, by simpa [Value.cells, o2, k2] using hg 2 f2 rfl⟩


end
end Go.Proofs.YtilldpoleiippaaGreatDoor

/-! Elements of slices read at their places; no condition. -/
namespace Go.Proofs.YtilldpoleiippaaGreatDoor
open Go.RowKit Go.Joins

theorem IsSl.bounds {α : Type} {w : World} {a : Option Addr} {n cap k : Nat} {R : α → List Value} {zs : List α} (h : IsSl w (.slice a n cap) k R zs) : zs.length = n ∧ n ≤ cap ∧ cap ≤ maxLen ∧ RowsAt w a k R zs := by
  obtain ⟨_, _, e, hl, hm, hr⟩ := h
  simp only [Value.slice.injEq] at e
  obtain ⟨rfl, rfl, rfl⟩ := e
  exact ⟨rfl, hl, hm, hr⟩
theorem five_at {w : World} {a : Option Addr} {zs : List Rq} (h : RowsAt w a 5 Rq.cs zs) (k : Nat) (hk : k < zs.length) :
    ∃ b off, a = some ⟨b, off, none⟩ ∧ b < w.heap.size ∧ ∀ wr, Below w.heap.size w wr → wr.cell? ⟨b, off + k * 5, none⟩ = some (.int .i64 zs[k].c) ∧ wr.cell? ⟨b, off + k * 5 + 1, none⟩ = some (.int .i64 zs[k].n) ∧
      wr.cell? ⟨b, off + k * 5 + 2, none⟩ = some (.int .i64 zs[k].o) ∧ wr.cell? ⟨b, off + k * 5 + 3, none⟩ = some (.int .i64 zs[k].x) ∧ wr.cell? ⟨b, off + k * 5 + 4, none⟩ = some (.int .i64 zs[k].y) := by
  obtain ⟨b, off, rfl, hb, hc⟩ := h k hk
  refine ⟨b, off, rfl, hb, fun wr hbel => ?_⟩
  have g : ∀ j, j < 5 → wr.cell? ⟨b, off + k * 5 + j, none⟩ = zs[k].cs[j]? := fun j hj => (hbel.cell (p := ⟨b, _, none⟩) hb).trans (hc j hj)
  exact ⟨g 0 (by decide), g 1 (by decide), g 2 (by decide), g 3 (by decide), g 4 (by decide)⟩
theorem one_at {w : World} {a : Option Addr} {zs : List Int} (h : RowsAt w a 1 intR zs) (k : Nat) (hk : k < zs.length) :
    ∃ b off, a = some ⟨b, off, none⟩ ∧ b < w.heap.size ∧ ∀ wr, Below w.heap.size w wr → wr.cell? ⟨b, off + k, none⟩ = some (.int .i64 zs[k]) := by
  obtain ⟨b, off, rfl, hb, hc⟩ := h k hk
  refine ⟨b, off, rfl, hb, fun wr hbel => ?_⟩
  have h := (hbel.cell (p := ⟨b, _, none⟩) hb).trans (hc 0 (by decide))
  rwa [Nat.mul_one, Nat.add_zero] at h
end Go.Proofs.YtilldpoleiippaaGreatDoor

/-! Slices that the program made itself: their rows kept, cut, appended to, stored into; condition: small sizes. -/
namespace Go.Proofs.YtilldpoleiippaaGreatDoor
open Go.RowKit Go.Joins

/-- The block of a slice that has room. -/
def rowBlk (a : Option Addr) (cap : Nat) : Option Nat := if cap = 0 then none else a.map (·.block)
/-- A slice of the program's own, in a block from B on; one without room may lie anywhere. -/
structure Row {α : Type} (w : World) (B : Nat) (e : TypeId) (a : Option Addr) (cap k : Nat) (R : α → List Value) (zs : List α) : Prop where
  len : zs.length ≤ cap
  max : cap ≤ maxLen
  own : 0 < cap → ∃ g cur, a = some ⟨g, 0, none⟩ ∧ B ≤ g ∧ w.heap[g]? = some (.cells cur e (0, 0)) ∧ cap * k ≤ cur.size ∧ ∀ j, j < zs.length * k → cur[j]? = (flat R zs)[j]?

section
variable {α : Type} {w w' : World} {B : Nat} {e : TypeId} {a : Option Addr} {cap k : Nat} {R : α → List Value} {zs : List α}

theorem Row.nil (w : World) (B : Nat) (e : TypeId) (a : Option Addr) (k : Nat) (R : α → List Value) : Row w B e a 0 k R [] :=
  ⟨Nat.le_refl _, Nat.zero_le _, fun h => absurd h (Nat.lt_irrefl 0)⟩
theorem Row.low {B' : Nat} (h : Row w B e a cap k R zs) (hB : B' ≤ B) : Row w B' e a cap k R zs :=
  ⟨h.len, h.max, fun hp => by obtain ⟨g, cur, h1, h2, h3⟩ := h.own hp; exact ⟨g, cur, h1, Nat.le_trans hB h2, h3⟩⟩
theorem Row.clip (h : Row w B e a cap k R zs) : Row w B e a zs.length k R zs :=
  ⟨Nat.le_refl _, Nat.le_trans h.len h.max, fun hp => by
    obtain ⟨g, cur, h1, h2, h3, h4, h5⟩ := h.own (Nat.lt_of_lt_of_le hp h.len)
    exact ⟨g, cur, h1, h2, h3, Nat.le_trans (Nat.mul_le_mul_right k h.len) h4, h5⟩⟩
theorem Row.blk (h : Row w B e a cap k R zs) {g : Nat} (hg : rowBlk a cap = some g) : B ≤ g ∧ g < w.heap.size := by
  unfold rowBlk at hg
  split at hg
  · cases hg
  · obtain ⟨g', cur, rfl, h2, h3, _⟩ := h.own (by omega)
    simp at hg
    subst hg
    exact ⟨h2, lt_of_block h3⟩
theorem Row.kept {row : Option Nat} (h : Row w B e a cap k R zs) (hg : w.grownBy w' row) (hne : ∀ g, rowBlk a cap = some g → row ≠ some g) : Row w' B e a cap k R zs :=
  ⟨h.len, h.max, fun hp => by
    obtain ⟨g, cur, rfl, h2, h3, h4⟩ := h.own hp
    refine ⟨g, cur, rfl, h2, ?_, h4⟩
    rw [hg.block g (lt_of_block h3) (fun e => hne g (by simp [rowBlk]; omega) e.symm)]
    exact h3⟩
theorem Row.below (h : Row w B e a cap k R zs) (hb : Below w.heap.size w w') : Row w' B e a cap k R zs :=
  ⟨h.len, h.max, fun hp => by
    obtain ⟨g, cur, rfl, h2, h3, h4⟩ := h.own hp
    exact ⟨g, cur, rfl, h2, (hb.block g (lt_of_block h3)).trans h3, h4⟩⟩
theorem Row.rows (h : Row w B e a cap k R zs) (hR : ∀ z, (R z).length = k) : RowsAt w a k R zs := by
  intro i hi
  obtain ⟨g, cur, rfl, h2, h3, h4, h5⟩ := h.own (Nat.lt_of_lt_of_le (Nat.lt_of_le_of_lt (Nat.zero_le _) hi) h.len)
  refine ⟨g, 0, rfl, lt_of_block h3, fun j hj => ?_⟩
  have hlt : i * k + j < zs.length * k := by
    have h1 : (i + 1) * k ≤ zs.length * k := Nat.mul_le_mul_right k hi
    rw [Nat.succ_mul] at h1
    omega
  rw [cell_of_block h3, Nat.zero_add, h5 _ hlt]
  exact flat_get hR zs i hi j hj
theorem Row.sl (h : Row w B e a cap k R zs) (hR : ∀ z, (R z).length = k) : IsSl w (.slice a zs.length cap) k R zs :=
  ⟨a, cap, rfl, h.len, h.max, h.rows hR⟩

theorem flat_append (R : α → List Value) (xs ys : List α) : flat R (xs ++ ys) = flat R xs ++ flat R ys := by
  simp [flat, List.flatMap_append]
theorem flat_mem_one {R : α → List Value} (h1 : ∀ z, ∀ u ∈ R z, u.oneCell' = true) (zs : List α) : ∀ u ∈ zs.flatMap R, u.oneCell' = true := by
  intro u hu
  obtain ⟨z, _, hz⟩ := List.mem_flatMap.1 hu
  exact h1 z u hz
theorem flatMap_length {R : α → List Value} (hR : ∀ z, (R z).length = k) (zs : List α) : (zs.flatMap R).length = zs.length * k := by
  have := flat_size hR zs
  simpa [flat] using this

theorem RowsAt.news {ys : List α} {ad : Addr} (hR : ∀ z, (R z).length = k) (h0 : 0 < k) (h : RowsAt w (some ad) k R ys) : ∀ j u, (ys.flatMap R)[j]? = some u → w.cell? (ad.add j) = some u := by
  intro j u hu
  have hj : j < ys.length * k := by
    rw [← flatMap_length hR ys]
    exact (List.getElem?_eq_some_iff.1 hu).1
  have hi : j / k < ys.length := by
    rw [Nat.div_lt_iff_lt_mul h0]; exact hj
  obtain ⟨b, off, q, _, hc⟩ := h (j / k) hi
  injection q with q
  subst q
  have hm := Nat.mod_lt j h0
  have h2 := hc (j % k) hm
  have h3 := flat_get hR ys (j / k) hi (j % k) hm
  have hdm : j / k * k + j % k = j := by rw [Nat.mul_comm]; exact Nat.div_add_mod j k
  rw [hdm] at h3
  rw [Nat.add_assoc, hdm] at h2
  rw [Go.WideShapes.add_plain, h2, ← h3]
  simpa [flat] using hu
theorem RowsAt.none_nil {ys : List α} (h : RowsAt w none k R ys) : ys = [] := by
  cases ys with
  | nil => rfl
  | cons y ys =>
    obtain ⟨_, _, q, _⟩ := h 0 (by simp)
    cases q
theorem RowsAt.src {P : Program} {tx e' : TypeId} {ys : List α} {ay : Option Addr} {cy : Nat} (hk : P.underlying tx = some (.slice e')) (hR : ∀ z, (R z).length = k) (h0 : 0 < k) (h1 : ∀ z, ∀ u ∈ R z, u.oneCell' = true) (h : RowsAt w ay k R ys) :
    Src P k tx (.slice ay ys.length cy) ys.length (ys.flatMap R) w := by
  cases ay with
  | none =>
    have h0 := h.none_nil
    subst h0
    exact Src.ofNil w hk cy
  | some ad => exact Src.ofSlice w hk ad ys.length cy _ (flatMap_length hR ys) (h.news hR h0) (flat_mem_one h1 ys)
theorem RowsAt.firsts {P : Program} {ys : List α} {ay : Option Addr} {cy : Nat} (hR : ∀ z, (R z).length = k) (h0 : 0 < k) (h : RowsAt w ay k R ys) : (Builtin.firstCells k ys.length (.slice ay ys.length cy)).run P w = .ok (ys.flatMap R).toArray w := by
  cases ay with
  | none =>
    have h0 := h.none_nil
    subst h0
    exact run_firstCells_none w k 0 0 cy
  | some ad => exact run_firstCells_some w k ys.length ad ys.length cy _ (flatMap_length hR ys) (h.news hR h0)

/-- append to such a slice. -/
theorem run_append_row {P : Program} {t tx ty e' : TypeId} {i : TypeInfo} {z : Value} {bytes : Nat} (ht : P.underlying t = some (.slice e)) (htx : P.underlying tx = some (.slice e')) (hi : P.info? e = some i) (hz : i.zero = some z)
    (hsize : i.size = k) (hby : i.bytes = bytes) (hzs : z.cells.size = k) (h0 : 0 < k) (hR : ∀ z, (R z).length = k) (h1 : ∀ z, ∀ u ∈ R z, u.oneCell' = true)
    (hrow : Row w B e a cap k R zs) {ys : List α} {ay : Option Addr} {cy : Nat} (hys : RowsAt w ay k R ys) (h63 : zs.length + ys.length ≤ maxLen) (hbytes : (zs.length + ys.length) * bytes ≤ 140737488355328) (hB : B ≤ w.heap.size) :
    ∃ a' cap' w', (Builtin.append_ #[t, tx] ty #[.slice a zs.length cap, .slice ay ys.length cy]).run P w = .ok (.slice a' (zs.length + ys.length) cap') w' ∧ Row w' B e a' cap' k R (zs ++ ys) ∧ w.grownBy w' (rowBlk a cap) ∧
      (rowBlk a' cap' = rowBlk a cap ∨ rowBlk a' cap' = some w.heap.size) ∧ (zs.length + ys.length ≤ cap → a' = a ∧ cap' = cap) := by
  subst hsize hby
  have hs := RowsAt.src (P := P) (w := w) (cy := cy) htx hR h0 h1 hys
  have hlz := flatMap_length hR zs
  have hly := flatMap_length hR ys
  have hsmall : zs.length + ys.length ≤ 9223372036854775807 := by simp only [maxLen] at h63; omega
  by_cases hroom : zs.length + ys.length ≤ cap
  · by_cases hc0 : cap = 0
    · subst hc0
      have e1 : zs = [] := List.eq_nil_of_length_eq_zero (by omega)
      have e2 : ys = [] := List.eq_nil_of_length_eq_zero (by omega)
      subst e1 e2
      refine ⟨a, 0, w, ?_, Row.nil w B e a i.size R, World.grownBy.refl w _, .inl rfl, fun _ => ⟨rfl, rfl⟩⟩
      have hl := hs.len
      have hcl := hs.cells
      simp only [List.flatMap_nil, List.length_nil] at hl hcl ⊢
      cases a with
      | none => simp [Builtin.append_, run_underlying ht, run_underlying htx, sizeOf, typeInfo, hi, hl, hcl]
      | some ad => simp [Builtin.append_, run_underlying ht, run_underlying htx, sizeOf, typeInfo, hi, hl, hcl, storeCells]
    · obtain ⟨g, cur, rfl, hBg, hg, hcs, hcur⟩ := hrow.own (by omega)
      have hb : rowBlk (some ⟨g, 0, none⟩) cap = some g := by simp [rowBlk, hc0]
      cases ay with
      | none =>
        have e2 := hys.none_nil
        subst e2
        refine ⟨some ⟨g, 0, none⟩, cap, w, ?_, by rw [List.append_nil]; exact hrow, World.grownBy.refl w _, .inl rfl, fun _ => ⟨rfl, rfl⟩⟩
        have hl := hs.len
        have hcl := hs.cells
        simp only [List.flatMap_nil, List.length_nil, Nat.add_zero] at hl hcl hroom ⊢
        simp [Builtin.append_, run_underlying ht, run_underlying htx, sizeOf, typeInfo, hi, hl, hcl, hroom, storeCells]
      | some ad =>
        have hfit : zs.length * i.size + (ys.flatMap R).length ≤ cur.size := by rw [hly, ← Nat.add_mul]; exact Nat.le_trans (Nat.mul_le_mul_right _ hroom) hcs
        have hst := run_storeCells_at P g (zs.length * i.size) e (ys.flatMap R) 0 cur w hg (by simpa using hfit) (flat_mem_one h1 ys)
        simp only [Nat.add_zero] at hst
        have hl := hs.len
        have hcl := hs.cells
        refine ⟨some ⟨g, 0, none⟩, cap, w.setRow g (cur.toList.take (zs.length * i.size) ++ ys.flatMap R ++ cur.toList.drop (zs.length * i.size + (ys.flatMap R).length)).toArray, ?_, ⟨by rw [List.length_append]; exact hroom, hrow.max, fun _ => ⟨g, _, rfl, hBg, setRow_heap w g cur _ e _ hg, ?_, ?_⟩⟩, ⟨rfl, rfl, rfl, by simp [World.setRow], fun b _ hne => setRow_other w g b _ (fun e => hne (by rw [hb, e]))⟩, .inl rfl, fun _ => ⟨rfl, rfl⟩⟩
        · simp [Builtin.append_, run_underlying ht, run_underlying htx, sizeOf, typeInfo, hi, hl, hcl, hroom, Addr.add_lit, hst]
        · simp only [List.size_toArray, List.length_append, List.length_take, List.length_drop, Array.length_toList]
          rw [Nat.min_eq_left (by omega)]
          omega
        · intro j hj
          have htk : (cur.toList.take (zs.length * i.size)).length = zs.length * i.size := by
            simp only [List.length_take, Array.length_toList]; omega
          rw [List.length_append, Nat.add_mul] at hj
          rw [List.getElem?_toArray, flat_append, List.append_assoc]
          by_cases hjz : j < zs.length * i.size
          · rw [List.getElem?_append_left (by rw [htk]; exact hjz), List.getElem?_take_of_lt hjz, Array.getElem?_append_left (by rw [flat_size hR]; exact hjz), ← hcur j hjz, Array.getElem?_toList]
          · rw [List.getElem?_append_right (by rw [htk]; omega), htk, List.getElem?_append_left (by omega), Array.getElem?_append_right (by rw [flat_size hR]; omega), flat_size hR]
            simp [flat]
  · have hr := run_append_grow_src (P := P) w t tx ty e i z ht hi hz a zs.length cap (zs.flatMap R) (by
      have hw : RowsAt w.drew a i.size R zs := hrow.rows hR
      exact hw.firsts (P := P) (cy := cap) hR h0) (.slice ay ys.length cy) ys.length (ys.flatMap R) hs (by omega) (by omega) (growslice_fits (by omega) hbytes)
    have hge := grownCap_ge w (zs.length + ys.length) cap e
    refine ⟨_, _, _, hr, ⟨by rw [List.length_append]; exact hge, grownCap_le_maxLen w _ _ e h63, fun _ => ⟨w.heap.size, _, rfl, hB, heap_alloc_new w.drew _, ?_, ?_⟩⟩, ⟨rfl, rfl, rfl, by simp, fun b hb _ => Below.heap_alloc w.drew _ b hb⟩, .inr ?_, fun h => absurd h hroom⟩
    · simp only [Array.size_append, List.size_toArray, List.length_append, size_zeroCells, hzs, hlz, hly, ← Nat.add_mul]
      exact Nat.mul_le_mul_right _ (by omega)
    · intro j hj
      rw [← flatMap_length hR] at hj
      rw [Array.getElem?_append_left (by rw [List.size_toArray, ← List.flatMap_append]; exact hj), ← List.flatMap_append]
      simp [flat]
    · have : ¬ grownCap w (zs.length + ys.length) cap e = 0 := by omega
      simp [rowBlk, this]

/-- What a slice type's elements are: their type, cells, bytes, rows. -/
structure Elt (P : Program) (t e : TypeId) (k bytes : Nat) (R : α → List Value) : Prop where
  under : P.underlying t = some (.slice e)
  info : ∃ i z, P.info? e = some i ∧ i.zero = some z ∧ i.size = k ∧ i.bytes = bytes ∧ z.cells.size = k
  pos : 0 < k
  len : ∀ z, (R z).length = k
  one : ∀ z, ∀ u ∈ R z, u.oneCell' = true

/-- What append leaves: a row, and where it lies. -/
structure Appended (w w' : World) (B : Nat) (e : TypeId) (a a' : Option Addr) (cap cap' k : Nat) (R : α → List Value) (zs : List α) : Prop where
  row : Row w' B e a' cap' k R zs
  grown : w.grownBy w' (rowBlk a cap)
  blk : rowBlk a' cap' = rowBlk a cap ∨ rowBlk a' cap' = some w.heap.size
  stay : zs.length ≤ cap → a' = a ∧ cap' = cap

theorem run_append_elt {P : Program} {t ty : TypeId} {bytes n m N : Nat} (el : Elt P t e k bytes R) (hrow : Row w B e a cap k R zs) {ys : List α} {ay : Option Addr} {cy : Nat} (hys : RowsAt w ay k R ys) (hn : zs.length = n) (hm : ys.length = m) (hN : n + m = N)
    (h63 : N ≤ maxLen) (hbytes : N * bytes ≤ 140737488355328) (hB : B ≤ w.heap.size) :
    ∃ a' cap' w', (Builtin.append_ #[t, t] ty #[.slice a n cap, .slice ay m cy]).run P w = .ok (.slice a' N cap') w' ∧ Appended w w' B e a a' cap cap' k R (zs ++ ys) := by
  subst hn hm hN
  obtain ⟨i, z, h1, h2, h3, h4, h5⟩ := el.info
  obtain ⟨a', cap', w', q1, q2, q3, q4, q5⟩ := run_append_row (ty := ty) (cy := cy) el.under el.under h1 h2 h3 h4 h5 el.pos el.len el.one hrow hys h63 hbytes hB
  exact ⟨a', cap', w', q1, q2, q3, q4, fun h => q5 (by rw [List.length_append] at h; exact h)⟩

/-- The law at a list of operations. -/
theorem wpList_append_row {P : Program} {ops : Array Oper} {rest : List Oper} {o : Oper} {ac : Act} {Q : Exit → Act → World → Prop} (hgd : o.guard = none) (s x : Operand) {t : TypeId}
    (ho : o.op = .call { callee := .builtin .append, args := #[s, x], argTypes := #[t, t] }) {bytes n m : Nat} (N : Nat) (el : Elt P t e k bytes R) {ys : List α} {ay : Option Addr} {cy : Nat} (hs : ac.eval s = .slice a n cap) (hx : ac.eval x = .slice ay m cy)
    (hrow : Row w B e a cap k R zs) (hys : RowsAt w ay k R ys) (hn : zs.length = n) (hm : ys.length = m) (hN : n + m = N) (h63 : N ≤ maxLen) (hbytes : N * bytes ≤ 140737488355328) (hB : B ≤ w.heap.size)
    (h : ∀ a' cap' w', Appended w w' B e a a' cap cap' k R (zs ++ ys) → wpList P ops Q rest (ac.put o.dst (.slice a' N cap')) w') : wpList P ops Q (o :: rest) ac w := by
  refine wpList_plain hgd fun K hK => ?_
  obtain ⟨a', cap', w', hrun, q⟩ := run_append_elt (ty := o.type) (cy := cy) el hrow hys hn hm hN h63 hbytes hB
  unfold Oper.wp
  simp [execOp, ho, resolve, invoke, builtin, hs, hx, hrun, Result.andThen]
  exact hK _ _ (h a' cap' w' q)

/-- The law at a step of a region that draws its order. -/
theorem step_append_elt {P : Program} {ops : Array Oper} {o : Oper} {ac : Act} {K : Act → World → Prop} {Q : Exit → Act → World → Prop} {E : Prop} (hgd : o.guard = none) (s x : Operand) {t : TypeId}
    (ho : o.op = .call { callee := .builtin .append, args := #[s, x], argTypes := #[t, t] }) {bytes n m : Nat} (N : Nat) (el : Elt P t e k bytes R) {ys : List α} {ay : Option Addr} {cy : Nat} (hs : ac.eval s = .slice a n cap) (hx : ac.eval x = .slice ay m cy)
    (hrow : Row w B e a cap k R zs) (hys : RowsAt w ay k R ys) (hn : zs.length = n) (hm : ys.length = m) (hN : n + m = N) (h63 : N ≤ maxLen) (hbytes : N * bytes ≤ 140737488355328) (hB : B ≤ w.heap.size)
    (h : ∀ a' cap' w', Appended w w' B e a a' cap cap' k R (zs ++ ys) → K (ac.put o.dst (.slice a' N cap')) w') :
    if Region.wanted o (yielded ops ac.tmps) = true then Oper.wp P o ac w K Q else E := by
  have hw : Region.wanted o (yielded ops ac.tmps) = true := by simp [Region.wanted, hgd]
  rw [if_pos hw]
  obtain ⟨a', cap', w', hrun, q⟩ := run_append_elt (ty := o.type) (cy := cy) el hrow hys hn hm hN h63 hbytes hB
  unfold Oper.wp
  simp [execOp, ho, resolve, invoke, builtin, hs, hx, hrun, Result.andThen]
  exact h a' cap' w' q
end

/-- What append to a slice without room leaves. -/
structure NewRow {α : Type} (w w' : World) (B : Nat) (e : TypeId) (a' : Option Addr) (cap' k : Nat) (R : α → List Value) (zs : List α) : Prop where
  row : Row w' B e a' cap' k R zs
  below : Below w.heap.size w w'
  blk : ∀ g, rowBlk a' cap' = some g → g = w.heap.size
theorem Appended.new {α : Type} {w w' : World} {B e k cap' : Nat} {a a' : Option Addr} {R : α → List Value} {zs : List α} (h : Appended w w' B e a a' 0 cap' k R ([] ++ zs)) : NewRow w w' B e a' cap' k R zs :=
  ⟨h.row, ⟨h.grown.os, h.grown.tape, h.grown.output, h.grown.size, fun b hb => h.grown.block b hb (by simp [rowBlk])⟩, fun g hg => by
    rcases h.blk with q | q
    · rw [hg] at q; simp [rowBlk] at q
    · rw [hg] at q
      injection q⟩
theorem step_append_new {α : Type} {w : World} (B : Nat) {e k : Nat} {a : Option Addr} {R : α → List Value} {P : Program} {ops : Array Oper} {o : Oper} {ac : Act} {K : Act → World → Prop} {Q : Exit → Act → World → Prop} {E : Prop} (hgd : o.guard = none) (s x : Operand) {t : TypeId}
    (ho : o.op = .call { callee := .builtin .append, args := #[s, x], argTypes := #[t, t] }) {bytes m : Nat} (el : Elt P t e k bytes R) {ys : List α} {ay : Option Addr} {cy : Nat} (hs : ac.eval s = .slice a 0 0) (hx : ac.eval x = .slice ay m cy)
    (hys : RowsAt w ay k R ys) (hm : ys.length = m) (h63 : m ≤ maxLen) (hbytes : m * bytes ≤ 140737488355328) (hB : B ≤ w.heap.size)
    (h : ∀ a' cap' w', NewRow w w' B e a' cap' k R ys → K (ac.put o.dst (.slice a' m cap')) w') :
    if Region.wanted o (yielded ops ac.tmps) = true then Oper.wp P o ac w K Q else E :=
  step_append_elt hgd s x ho m el hs hx (Row.nil w B e a k R) hys rfl hm (Nat.zero_add m) h63 hbytes hB fun a' c' w' q => h a' c' w' q.new
theorem wpList_append_new {α : Type} {w : World} (B : Nat) {e k : Nat} {a : Option Addr} {R : α → List Value} {P : Program} {ops : Array Oper} {rest : List Oper} {o : Oper} {ac : Act} {Q : Exit → Act → World → Prop} (hgd : o.guard = none) (s x : Operand) {t : TypeId}
    (ho : o.op = .call { callee := .builtin .append, args := #[s, x], argTypes := #[t, t] }) {bytes m : Nat} (el : Elt P t e k bytes R) {ys : List α} {ay : Option Addr} {cy : Nat} (hs : ac.eval s = .slice a 0 0) (hx : ac.eval x = .slice ay m cy)
    (hys : RowsAt w ay k R ys) (hm : ys.length = m) (h63 : m ≤ maxLen) (hbytes : m * bytes ≤ 140737488355328) (hB : B ≤ w.heap.size)
    (h : ∀ a' cap' w', NewRow w w' B e a' cap' k R ys → wpList P ops Q rest (ac.put o.dst (.slice a' m cap')) w') : wpList P ops Q (o :: rest) ac w :=
  wpList_append_row hgd s x ho m el hs hx (Row.nil w B e a k R) hys rfl hm (Nat.zero_add m) h63 hbytes hB fun a' c' w' q => h a' c' w' q.new
theorem NewRow.apart {α : Type} {w w' : World} {B e k cap' : Nat} {a' : Option Addr} {R : α → List Value} {zs : List α} (h : NewRow w w' B e a' cap' k R zs) {β : Type} {B2 e2 k2 cap2 : Nat} {a2 : Option Addr} {R2 : β → List Value} {ys : List β} (r : Row w B2 e2 a2 cap2 k2 R2 ys) : ∀ g, rowBlk a' cap' = some g → rowBlk a2 cap2 ≠ some g := by
  intro g hg h2
  have hlt := (r.blk h2).2
  have := h.blk g hg
  omega

theorem step_build0 {α : Type} {w : World} {e k bytes : Nat} {R : α → List Value} {P : Program} {ops : Array Oper} {o : Oper} {ac : Act} {K : Act → World → Prop} {Q : Exit → Act → World → Prop} {E : Prop} (hgd : o.guard = none) {t : TypeId}
    (ho : o.op = .buildSlice t 0 #[]) (el : Elt P t e k bytes R) (h : K (ac.put o.dst (.slice (some ⟨w.heap.size, 0, none⟩) 0 0)) (w.alloc (.cells #[] e))) :
    if Region.wanted o (yielded ops ac.tmps) = true then Oper.wp P o ac w K Q else E := by
  have hw : Region.wanted o (yielded ops ac.tmps) = true := by simp [Region.wanted, hgd]
  rw [if_pos hw]
  obtain ⟨i, z, h2, h3, h4, h5, h6⟩ := el.info
  unfold Oper.wp
  simp [execOp, ho, Result.andThen, Instr.buildSlice, run_underlying el.under, zeroValue, sizeOf, typeInfo, h2, h3, newRow, h4, Instr.fill]
  have h0 : (Array.map (fun _ => (default : Value)) (Array.range 0)) = #[] := by simp
  rw [h0]
  exact h

/-! What go_region_held3 is told: below B the world is as W was; stores from B on are let in. -/
theorem KeptB.refl (B : Nat) (W : World) : ((∀ b o, b < B → (W).cell? ⟨b, o, none⟩ = (W).cell? ⟨b, o, none⟩) ∧ Below (B) (W) (W)) := ⟨fun _ _ _ => rfl, Below.refl _ _⟩
theorem KeptB.of {B : Nat} {W w1 : World} (h : Below B W w1) : ((∀ b o, b < B → (w1).cell? ⟨b, o, none⟩ = (W).cell? ⟨b, o, none⟩) ∧ Below (B) (W) (w1)) := ⟨fun b o hb => h.cell (p := ⟨b, o, none⟩) hb, h⟩
theorem KeptB.drew {B : Nat} {W w1 : World} (h : ((∀ b o, b < B → (w1).cell? ⟨b, o, none⟩ = (W).cell? ⟨b, o, none⟩) ∧ Below (B) (W) (w1))) : ((∀ b o, b < B → (w1.drew).cell? ⟨b, o, none⟩ = (W).cell? ⟨b, o, none⟩) ∧ Below (B) (W) (w1.drew)) := ⟨h.1, h.2.drew⟩
theorem KeptB.alloc {B : Nat} {W w1 : World} (hB : B ≤ W.heap.size) (x : Obj) (h : ((∀ b o, b < B → (w1).cell? ⟨b, o, none⟩ = (W).cell? ⟨b, o, none⟩) ∧ Below (B) (W) (w1))) : ((∀ b o, b < B → (w1.alloc x).cell? ⟨b, o, none⟩ = (W).cell? ⟨b, o, none⟩) ∧ Below (B) (W) (w1.alloc x)) := KeptB.of (h.2.alloc (Nat.le_trans hB h.2.size) x)
theorem KeptB.next {B : Nat} {W w1 w2 : World} (hB : B ≤ W.heap.size) (h : ((∀ b o, b < B → (w1).cell? ⟨b, o, none⟩ = (W).cell? ⟨b, o, none⟩) ∧ Below (B) (W) (w1))) (k : Below w1.heap.size w1 w2) : ((∀ b o, b < B → (w2).cell? ⟨b, o, none⟩ = (W).cell? ⟨b, o, none⟩) ∧ Below (B) (W) (w2)) := KeptB.of (h.2.trans (k.mono (Nat.le_trans hB h.2.size)))
theorem KeptB.set {B : Nat} {W w1 : World} {p : Addr} (hp : B ≤ p.block) (v : Value) (h : ((∀ b o, b < B → (w1).cell? ⟨b, o, none⟩ = (W).cell? ⟨b, o, none⟩) ∧ Below (B) (W) (w1))) : ((∀ b o, b < B → (w1.setCell p v).cell? ⟨b, o, none⟩ = (W).cell? ⟨b, o, none⟩) ∧ Below (B) (W) (w1.setCell p v)) := KeptB.of (h.2.setCell hp v)
theorem KeptB.weak {B B' : Nat} {W w1 : World} (h : ((∀ b o, b < B' → (w1).cell? ⟨b, o, none⟩ = (W).cell? ⟨b, o, none⟩) ∧ Below (B') (W) (w1))) (hB : B ≤ B') : ((∀ b o, b < B → (w1).cell? ⟨b, o, none⟩ = (W).cell? ⟨b, o, none⟩) ∧ Below (B) (W) (w1)) := KeptB.of (h.2.mono hB)

section
variable {α : Type} {w w' : World} {B : Nat} {e : TypeId} {a : Option Addr} {cap k : Nat} {R : α → List Value} {zs : List α}
theorem Row.drew (h : Row w B e a cap k R zs) : Row w.drew B e a cap k R zs := ⟨h.len, h.max, h.own⟩
theorem Row.alloc (h : Row w B e a cap k R zs) (o : Obj) : Row (w.alloc o) B e a cap k R zs := h.below ((Below.refl _ _).alloc (Nat.le_refl _) o)
/-- A store into another block. -/
theorem Row.setOther (h : Row w B e a cap k R zs) {p : Addr} (hp : p.block < B) (v : Value) : Row (w.setCell p v) B e a cap k R zs :=
  ⟨h.len, h.max, fun hc => by
    obtain ⟨g, cur, rfl, h2, h3, h4⟩ := h.own hc
    exact ⟨g, cur, rfl, h2, (Below.heap_setCell w p v g (by omega)).trans h3, h4⟩⟩
theorem Row.setNe (h : Row w B e a cap k R zs) {p : Addr} (hp : ∀ g, rowBlk a cap = some g → g ≠ p.block) (v : Value) : Row (w.setCell p v) B e a cap k R zs :=
  ⟨h.len, h.max, fun hc => by
    obtain ⟨g, cur, rfl, h2, h3, h4⟩ := h.own hc
    exact ⟨g, cur, rfl, h2, (Below.heap_setCell w p v g (hp g (by simp [rowBlk]; omega))).trans h3, h4⟩⟩
theorem Appended.below {B' : Nat} {a' : Option Addr} {cap' : Nat} (h : Appended w w' B e a a' cap cap' k R zs) (hB : B' ≤ w.heap.size) (hn : ∀ g, rowBlk a cap = some g → B' ≤ g) : Below B' w w' :=
  ⟨h.grown.os, h.grown.tape, h.grown.output, h.grown.size, fun b hb => h.grown.block b (by omega) (fun e => by have := hn b e.symm; omega)⟩
end

theorem five_one : ∀ z : Rq, ∀ u ∈ z.cs, u.oneCell' = true := by
  intro z u hu
  simp [Rq.cs] at hu
  rcases hu with rfl | rfl | rfl | rfl | rfl <;> rfl
theorem int_one : ∀ z : Int, ∀ u ∈ intR z, u.oneCell' = true := by
  intro z u hu
  simp [intR] at hu
  subst hu
  rfl
set_option maxRecDepth 100000 in
theorem eltInt : Elt Tryz.prog 25 3 1 8 intR := by
  obtain ⟨i, h1, h2, h3, h4⟩ := info_parts (P := Tryz.prog) (e := 3) (z := .int .i64 0) (size := 1) (bytes := 8) (by kernel_rfl)
  exact ⟨Tryz.underlying25, ⟨i, _, h1, h2, h3, h4, rfl⟩, by decide, fun _ => rfl, int_one⟩
set_option maxRecDepth 100000 in
theorem eltReq : Elt Tryz.prog 58 79 5 40 Rq.cs := by
  obtain ⟨i, h1, h2, h3, h4⟩ := info_parts (P := Tryz.prog) (e := 79) (z := .agg #[.int .i64 0, .int .i64 0, .int .i64 0, .int .i64 0, .int .i64 0]) (size := 5) (bytes := 40) (by kernel_rfl)
  exact ⟨Tryz.underlying58, ⟨i, _, h1, h2, h3, h4, rfl⟩, by decide, fun _ => rfl, five_one⟩
set_option maxRecDepth 100000 in
theorem eltEnt : Elt Tryz.prog 24 44 5 40 Rq.cs := by
  obtain ⟨i, h1, h2, h3, h4⟩ := info_parts (P := Tryz.prog) (e := 44) (z := .agg #[.int .i64 0, .int .i64 0, .int .i64 0, .int .i64 0, .int .i64 0]) (size := 5) (bytes := 40) (by kernel_rfl)
  exact ⟨Tryz.underlying24, ⟨i, _, h1, h2, h3, h4, rfl⟩, by decide, fun _ => rfl, five_one⟩
end Go.Proofs.YtilldpoleiippaaGreatDoor

/-! Contracts of the functions on requests (in, ReqOk and their kin); no condition. -/
namespace Go.Proofs.YtilldpoleiippaaGreatDoor
open Go.RowKit

set_option maxHeartbeats 400000 in
theorem l1In_c (n lo hi : Int) (w : World) :
    Calls Tryz.prog 43 #[.int .i64 n, .int .i64 lo, .int .i64 hi] w fun e w' => e = .returned (.bool (inB n lo hi)) ∧ w = w' := by
  go_enter Tryz.func43, Tryz.ntmps43
  go_wp2
  · go_ret
    exact ⟨ret_bool (by have h : lo ≤ n := by assumption
                        simp [inB, h]), rfl⟩
  · go_ret
    exact ⟨ret_bool (by have h : n < lo := by assumption
                        have h' : ¬ lo ≤ n := by omega
                        simp [inB, h']), rfl⟩

set_option maxHeartbeats 400000 in
theorem in_c (n lo hi : Int) (w : World) :
    Calls Tryz.prog 26 #[.int .i64 n, .int .i64 lo, .int .i64 hi] w fun e w' => e = .returned (.bool (inB n lo hi)) ∧ w = w' := by
  go_enter Tryz.func26, Tryz.ntmps26
  go_wp2
  · go_ret
    exact ⟨ret_bool (by have h : lo ≤ n := by assumption
                        simp [inB, h]), rfl⟩
  · go_ret
    exact ⟨ret_bool (by have h : n < lo := by assumption
                        have h' : ¬ lo ≤ n := by omega
                        simp [inB, h']), rfl⟩

end Go.Proofs.YtilldpoleiippaaGreatDoor

/-! Contracts of the functions that copy a law's slices (toIntS, toEntS, toReqS), that weigh and that compare them; condition: at most 2^20 elements. -/
namespace Go.Proofs.YtilldpoleiippaaGreatDoor
open Go.RowKit Go.Joins

theorem flat_int (zs : List Int) : flat intR zs = (zs.map (Value.int .i64)).toArray := by
  unfold flat
  congr 1
  induction zs with
  | nil => rfl
  | cons z zs ih => simp [List.flatMap_cons, intR] at ih ⊢; exact ih
theorem flat_int_set (zs : List Int) (i : Nat) (x : Int) : (flat intR zs).setIfInBounds i (.int .i64 x) = flat intR (zs.set i x) := by
  rw [flat_int, flat_int, List.setIfInBounds_toArray, List.map_set]
theorem made_int (n : Nat) : madeCells #[.int .i64 0] n = flat intR (List.replicate n 0) := by
  rw [flat_int]
  apply Array.ext
  · simp [madeCells]
  · intro i h1 h2
    simp [madeCells, Nat.mod_one]

/-- What is alike up to k, and k all: alike. -/
theorem alike_all {α : Type} {ys zs : List α} {k : Nat} (hl : ys.length = zs.length) (h : ∀ j, j < k → ys[j]? = zs[j]?) (hk : zs.length ≤ k) : ys = zs := by
  apply List.ext_getElem?
  intro i
  by_cases hi : i < k
  · exact h i hi
  · rw [List.getElem?_eq_none (by omega), List.getElem?_eq_none (by omega)]
theorem alike_next {α : Type} {ys zs : List α} {k : Nat} (hk : k < zs.length) (hl : ys.length = zs.length) (h : ∀ j, j < k → ys[j]? = zs[j]?) : ∀ j, j < k + 1 → (ys.set k zs[k])[j]? = zs[j]? := by
  intro j hj
  by_cases hjk : j = k
  · subst hjk
    rw [List.getElem?_set_self (by omega), List.getElem?_eq_getElem hk]
  · rw [List.getElem?_set_ne (by omega)]
    exact h j (by omega)

/-- What the copy gives. -/
def Copied {α : Type} (t : TypeId) (R : α → List Value) (zs : List α) (w : World) (e : Ending) (w' : World) : Prop :=
  e = .returned (.slice (some ⟨w.heap.size, 0, none⟩) zs.length zs.length) ∧ w'.heap[w.heap.size]? = some (.cells (flat R zs) t (0, 0)) ∧ Below w.heap.size w w'

theorem infoInt : (Tryz.prog.info? 3).map (fun i => (i.zero, i.size, i.bytes)) = some (some (.int .i64 0), 1, 8) := by kernel_rfl

theorem make_int (w : World) (n : Nat) (h : n ≤ 1048576) : (Instr.makeSlice 25 (.int .i64 (n : Int)) (.int .i64 (n : Int))).run Tryz.prog w = .ok (.slice (some ⟨w.heap.size, 0, none⟩) n n) (w.alloc (.cells (flat intR (List.replicate n 0)) 3)) := by
  obtain ⟨i0, hi, hz0, hz1, hz2⟩ := info_parts infoInt
  have := run_make (P := Tryz.prog) (w := w) 25 3 i0 (.int .i64 0) Tryz.underlying25 hi hz0 .i64 .i64 (n : Int) (n : Int) (by omega) (by omega) (by rw [hz2]; omega) (by omega)
  rw [hz1] at this
  rw [← made_int]
  simpa [Value.cells] using this

theorem five_len (z : Rq) : z.cs.length = 5 := rfl
theorem flat_five_set (zs : List Rq) (i : Nat) (h : i < zs.length) (r : Rq) :
    (((((flat Rq.cs zs).setIfInBounds (i * 5) (.int .i64 r.c)).setIfInBounds (i * 5 + 1) (.int .i64 r.n)).setIfInBounds (i * 5 + 2) (.int .i64 r.o)).setIfInBounds (i * 5 + 3) (.int .i64 r.x)).setIfInBounds (i * 5 + 4) (.int .i64 r.y) = flat Rq.cs (zs.set i r) := by
  unfold flat
  simp only [List.setIfInBounds_toArray]
  congr 1
  induction zs generalizing i with
  | nil => cases h
  | cons z zs ih =>
    cases i with
    | zero => simp [List.flatMap_cons, Rq.cs]
    | succ i =>
      have := ih i (by simpa using h)
      have e : ∀ j, (i + 1) * 5 + j = 5 + (i * 5 + j) := fun j => by omega
      have e0 : (i + 1) * 5 = 5 + i * 5 := by omega
      have ap : ∀ (l : List Value) (m : Nat) (v : Value), (z.cs ++ l).set (5 + m) v = z.cs ++ l.set m v := fun l m v => by
        rw [List.set_append_right _ _ (by rw [five_len]; omega), five_len]
        congr 2
        omega
      simp only [List.flatMap_cons, List.set_cons_succ]
      rw [e 1, e 2, e 3, e 4, e0, ap, ap, ap, ap, ap, this]
theorem made_five (n : Nat) : madeCells #[.int .i64 0, .int .i64 0, .int .i64 0, .int .i64 0, .int .i64 0] (n * 5) = flat Rq.cs (List.replicate n ⟨0, 0, 0, 0, 0⟩) := by
  apply Array.ext
  · rw [flat_size five_len]; simp [madeCells]
  · intro i h1 h2
    have hi : i < n * 5 := by simpa [madeCells] using h1
    have g := flat_get five_len (List.replicate n (⟨0, 0, 0, 0, 0⟩ : Rq)) (i / 5) (by simp; omega) (i % 5) (by omega)
    rw [show i / 5 * 5 + i % 5 = i by omega] at g
    have hm : i % 5 = 0 ∨ i % 5 = 1 ∨ i % 5 = 2 ∨ i % 5 = 3 ∨ i % 5 = 4 := by omega
    rw [Array.getElem?_eq_getElem h2] at g
    apply Option.some.inj
    rw [g]
    simp only [madeCells, Array.getElem_map, Array.getElem_range, List.getElem_replicate]
    rcases hm with h | h | h | h | h <;> (simp [h, Rq.cs])
end Go.Proofs.YtilldpoleiippaaGreatDoor

/-! Contracts of toReqS and toEntS, that copy slices of structs of five integers; condition: at most 2^20 elements. -/
namespace Go.Proofs.YtilldpoleiippaaGreatDoor
open Go.RowKit Go.Joins











end Go.Proofs.YtilldpoleiippaaGreatDoor

/-! Contracts of the functions that weigh (szXS) and compare (eqXS) slices of integers and of structs of five; eqXS: of two that are alike; no condition. -/
namespace Go.Proofs.YtilldpoleiippaaGreatDoor
open Go.RowKit Go.Joins

/-- What is left behind n elements; -1: too many. -/
def leftOf (left : Int) (n : Nat) : Int := if left - n < 0 then -1 else left - n
/-- Yes; nothing old has turned. -/
def Yes (w : World) (e : Ending) (w' : World) : Prop := e = .returned (.bool true) ∧ Below w.heap.size w w'

theorem eqFive (c n o x y : Int) : (c == c && n == n && o == o && x == x && y == y) = true := by simp


end Go.Proofs.YtilldpoleiippaaGreatDoor

/-! The checksum as a function on lists of bytes, and that one turned byte turns it: plain arithmetic, no program; no condition. -/
namespace Go.Proofs.YtilldpoleiippaaGreatDoor
open Go.RowKit

def crcStep (c : Nat) : Nat := if c % 2 = 1 then (c / 2) ^^^ 3988292384 else c / 2
def crcRun : Nat → Nat → Nat
  | 0, c => c
  | n + 1, c => crcStep (crcRun n c)
def crcFold (l : List UInt8) (c : Nat) : Nat := l.foldl (fun c b => crcRun 8 (c ^^^ b.toNat)) c
def crcOf (l : List UInt8) : Nat := crcFold l 4294967295 ^^^ 4294967295

theorem crcStep_two (c : Nat) : (c % 2 = 1 ∧ crcStep c = (c / 2) ^^^ 3988292384) ∨ (c % 2 = 0 ∧ crcStep c = c / 2) := by
  unfold crcStep
  split
  · exact .inl ⟨‹_›, rfl⟩
  · exact .inr ⟨by omega, rfl⟩
theorem crcStep_lt {c : Nat} (h : c < 2 ^ 32) : crcStep c < 2 ^ 32 := by
  unfold crcStep
  split
  · exact Nat.xor_lt_two_pow (by omega) (by decide)
  · omega
theorem crcRun_lt {n c : Nat} (h : c < 2 ^ 32) : crcRun n c < 2 ^ 32 := by
  induction n with
  | zero => exact h
  | succ n ih => exact crcStep_lt ih
theorem byte_lt {c : Nat} (b : UInt8) (h : c < 2 ^ 32) : c ^^^ b.toNat < 2 ^ 32 := Nat.xor_lt_two_pow h (by have := b.toNat_lt; omega)
theorem crcFold_lt (l : List UInt8) {c : Nat} (h : c < 2 ^ 32) : crcFold l c < 2 ^ 32 := by
  induction l generalizing c with
  | nil => exact h
  | cons b l ih => exact ih (crcRun_lt (byte_lt b h))
theorem crcFold_snoc (l : List UInt8) (b : UInt8) (c : Nat) : crcFold (l ++ [b]) c = crcRun 8 (crcFold l c ^^^ b.toNat) := by
  unfold crcFold; rw [List.foldl_append]; rfl
theorem crcOf_lt (l : List UInt8) : crcOf l < 2 ^ 32 := Nat.xor_lt_two_pow (crcFold_lt l (by decide)) (by decide)

theorem xor_cancel {a b p : Nat} (h : a ^^^ p = b ^^^ p) : a = b := by
  have := congrArg (· ^^^ p) h
  simpa [Nat.xor_assoc] using this
theorem xor_cancel_left {a b p : Nat} (h : p ^^^ a = p ^^^ b) : a = b := by
  rw [Nat.xor_comm p a, Nat.xor_comm p b] at h; exact xor_cancel h
theorem top_parts {a b : Nat} (ha : a < 2 ^ 31) (hb : b < 2 ^ 31) : a ^^^ 3988292384 ≠ b := by
  intro h
  have := congrArg (fun n => n.testBit 31) h
  simp only [Nat.testBit_xor] at this
  rw [Nat.testBit_lt_two_pow ha, Nat.testBit_lt_two_pow hb] at this
  revert this
  decide
theorem crcStep_inj {c d : Nat} (hc : c < 2 ^ 32) (hd : d < 2 ^ 32) (h : crcStep c = crcStep d) : c = d := by
  unfold crcStep at h
  split at h <;> split at h
  · have := xor_cancel h; omega
  · exact absurd h (top_parts (by omega) (by omega))
  · exact absurd h.symm (top_parts (by omega) (by omega))
  · omega
theorem crcRun_inj {n c d : Nat} (hc : c < 2 ^ 32) (hd : d < 2 ^ 32) (h : crcRun n c = crcRun n d) : c = d := by
  induction n with
  | zero => exact h
  | succ n ih => exact ih (crcStep_inj (crcRun_lt hc) (crcRun_lt hd) h)
theorem crcFold_inj (l : List UInt8) {c d : Nat} (hc : c < 2 ^ 32) (hd : d < 2 ^ 32) (h : crcFold l c = crcFold l d) : c = d := by
  induction l generalizing c d with
  | nil => exact h
  | cons b l ih => exact xor_cancel (crcRun_inj (byte_lt b hc) (byte_lt b hd) (ih (crcRun_lt (byte_lt b hc)) (crcRun_lt (byte_lt b hd)) h))
/-- One byte other: another sum. -/
theorem crcOf_flip (p q : List UInt8) {b b' : UInt8} (hne : b ≠ b') : crcOf (p ++ b :: q) ≠ crcOf (p ++ b' :: q) := by
  intro h
  have h1 := xor_cancel h
  have e : ∀ x : UInt8, crcFold (p ++ x :: q) 4294967295 = crcFold q (crcRun 8 (crcFold p 4294967295 ^^^ x.toNat)) := fun x => by
    unfold crcFold; rw [List.foldl_append]; rfl
  have hp := crcFold_lt p (c := 4294967295) (by decide)
  rw [e, e] at h1
  have h2 := crcFold_inj q (crcRun_lt (byte_lt b hp)) (crcRun_lt (byte_lt b' hp)) h1
  have h3 := crcRun_inj (byte_lt b hp) (byte_lt b' hp) h2
  exact hne (UInt8.toNat_inj.1 (xor_cancel_left h3))

theorem i64_xor_nat (a b : Nat) (ha : a < 9223372036854775808) (hb : b < 9223372036854775808) : bits .xor .i64 (a : Int) (b : Int) = ((a ^^^ b : Nat) : Int) := by
  have hx : a ^^^ b < 2 ^ 63 := Nat.xor_lt_two_pow (by omega) (by omega)
  show IntKind.i64.wrap ((BitVec.ofInt 64 (a : Int) ^^^ BitVec.ofInt 64 (b : Int)).toNat : Int) = _
  rw [BitVec.toNat_xor, ofInt_u64 a (by omega), ofInt_u64 b (by omega)]
  simp only [IntKind.wrap, IntKind.bits, IntKind.signed]
  simp
  omega
end Go.Proofs.YtilldpoleiippaaGreatDoor

/-! '==' and '!=' between two requests, as one test; no condition. -/
namespace Go.Proofs.YtilldpoleiippaaGreatDoor
open Go.RowKit

def eqR (c n o x y c' n' o' x' y' : Int) : Bool := c == c' && n == n' && o == o' && x == x' && y == y'

theorem Rq.eq_of {r s : Rq} (h1 : r.c = s.c) (h2 : r.n = s.n) (h3 : r.o = s.o) (h4 : r.x = s.x) (h5 : r.y = s.y) : r = s := by
  obtain ⟨c, n, o, x, y⟩ := r
  obtain ⟨c', n', o', x', y'⟩ := s
  simp only at h1 h2 h3 h4 h5
  subst h1 h2 h3 h4 h5
  rfl
theorem eqR_iff (r s : Rq) : eqR r.c r.n r.o r.x r.y s.c s.n s.o s.x s.y = true ↔ r = s := by
  unfold eqR
  constructor
  · intro h
    simp only [Bool.and_eq_true, beq_iff_eq] at h
    obtain ⟨⟨⟨⟨h1, h2⟩, h3⟩, h4⟩, h5⟩ := h
    exact Rq.eq_of h1 h2 h3 h4 h5
  · rintro rfl
    simp
theorem eqR_refl (c n o x y : Int) : eqR c n o x y c n o x y = true := by simp [eqR]
theorem eqR_ne {r s : Rq} (h : r ≠ s) : eqR r.c r.n r.o r.x r.y s.c s.n s.o s.x s.y = false := by
  rw [← Bool.not_eq_true, eqR_iff]; exact h
theorem eqR_comm (c n o x y c' n' o' x' y' : Int) : eqR c n o x y c' n' o' x' y' = eqR c' n' o' x' y' c n o x y := by
  unfold eqR
  rw [Bool.eq_iff_iff]
  simp only [Bool.and_eq_true, beq_iff_eq]
  constructor <;> (rintro ⟨⟨⟨⟨h1, h2⟩, h3⟩, h4⟩, h5⟩; exact ⟨⟨⟨⟨h1.symm, h2.symm⟩, h3.symm⟩, h4.symm⟩, h5.symm⟩)

theorem eql_rq (w : World) (c n o x y c' n' o' x' y' : Int) : (binOp .eql 79 (.agg #[.int .i64 c, .int .i64 n, .int .i64 o, .int .i64 x, .int .i64 y]) (.agg #[.int .i64 c', .int .i64 n', .int .i64 o', .int .i64 x', .int .i64 y'])).run Tryz.prog w = .ok (.bool (eqR c n o x y c' n' o' x' y')) w := by
  go_simp
  by_cases h1 : c = c' <;> by_cases h2 : n = n' <;> by_cases h3 : o = o' <;> by_cases h4 : x = x' <;> by_cases h5 : y = y' <;> simp [eqR, h1, h2, h3, h4, h5]
theorem neq_rq (w : World) (c n o x y c' n' o' x' y' : Int) : (binOp .neq 79 (.agg #[.int .i64 c, .int .i64 n, .int .i64 o, .int .i64 x, .int .i64 y]) (.agg #[.int .i64 c', .int .i64 n', .int .i64 o', .int .i64 x', .int .i64 y'])).run Tryz.prog w = .ok (.bool (!eqR c n o x y c' n' o' x' y')) w := by
  go_simp
  by_cases h1 : c = c' <;> by_cases h2 : n = n' <;> by_cases h3 : o = o' <;> by_cases h4 : x = x' <;> by_cases h5 : y = y' <;> simp [eqR, h1, h2, h3, h4, h5]
end Go.Proofs.YtilldpoleiippaaGreatDoor

/-! Contracts of l1Dec (decimals), l1Words, l1None, l1Put and the reference's ReqPut; condition: 64-bit numbers. -/
namespace Go.Proofs.YtilldpoleiippaaGreatDoor
open Go.RowKit Go.Joins

theorem str_append (l m : List UInt8) : (⟨l.toArray⟩ : ByteArray) ++ ⟨m.toArray⟩ = ⟨(l ++ m).toArray⟩ := by
  apply ByteArray.ext
  simp
theorem ret_str {a b : ByteArray} (h : a = b) : Ending.returned (.string a) = .returned (.string b) := by rw [h]
theorem dec_snoc (u : Nat) (h : 10 ≤ u) : (⟨(Lib.decDigits (u / 10)).toArray⟩ : ByteArray) ++ ⟨#[48 + UInt8.ofNat (u % 10)]⟩ = ⟨(Lib.decDigits u).toArray⟩ := by
  have h1 : Lib.decDigits u = Lib.decDigits (u / 10) ++ [UInt8.ofNat (48 + u % 10)] := by rw [Lib.decDigits, dif_neg (by omega)]
  rw [h1, ← str_append]
  congr 3
  simp

theorem conv1 (b : Nat) (x : Int) (W : World) (h : W.cell? ⟨b, 0, none⟩ = some (.int .u8 x)) : (convert 22 9 (.slice (some ⟨b, 0, none⟩) 1 1)).run Tryz.prog W = .ok (.string ⟨#[UInt8.ofNat x.toNat]⟩) W := by
  have hc : ∀ i, i < 1 → W.cell? ⟨b, 0 + i, none⟩ = some (.int .u8 (([x] : List Int).getD i 0)) := by
    intro i hi
    obtain rfl : i = 0 := by omega
    exact h
  exact run_convert_bytes_arg (P := Tryz.prog) W 22 5 Tryz.underlying22 Tryz.underlying5 b 0 1 1 [x] rfl hc 9 Tryz.underlying9

set_option maxRecDepth 100000 in
set_option maxHeartbeats 400000 in
theorem decDigit (u : Nat) (w : World) (h10 : u < 10) :
    Calls Tryz.prog 44 #[.int .i64 u] w fun e w' => e = .returned (.string ⟨(Lib.decDigits u).toArray⟩) ∧ Below w.heap.size w w' := by
  have hconv := conv1 w.heap.size (48 + u)
  go_enter Tryz.func44, Tryz.ntmps44
  go_wp2_with fail
  go_ret
  refine ⟨?_, (by repeat' (first | with_reducible exact Below.refl _ _ | with_reducible assumption | with_reducible refine Below.alloc ?_ ?_ _ | with_reducible refine Below.drew ?_ | with_reducible refine Below.setCell ?_ ?_ _ | omega | (simp; omega) | (simp; done)))⟩
  have h1 : Lib.decDigits u = [UInt8.ofNat (48 + u)] := by rw [Lib.decDigits, dif_pos h10]
  rw [h1]
  rfl

set_option maxRecDepth 100000 in
set_option maxHeartbeats 400000 in
theorem decStep (u : Nat) (w : World) (h10 : 10 ≤ u) (hb : u ≤ 9223372036854775807) (hd : ∀ W : World, Calls Tryz.prog 44 #[.int .i64 ((u : Int) / 10)] W fun e w' => e = .returned (.string ⟨(Lib.decDigits (u / 10)).toArray⟩) ∧ Below W.heap.size W w') :
    Calls Tryz.prog 44 #[.int .i64 u] w fun e w' => e = .returned (.string ⟨(Lib.decDigits u).toArray⟩) ∧ Below w.heap.size w w' := by
  have HD := Lib.hid hd
  have D1 : (u : Int).tdiv 10 = (u : Int) / 10 := Int.tdiv_eq_ediv_of_nonneg (by omega)
  have M1 : (u : Int).tmod 10 = (u : Int) % 10 := Int.tmod_eq_emod_of_nonneg (by omega)
  have W1 : IntKind.i64.wrap ((u : Int) / 10) = (u : Int) / 10 := IntWalk.i64_in _ ⟨by omega, by omega⟩
  have W2 : IntKind.i64.wrap (48 + (u : Int) % 10) = 48 + (u : Int) % 10 := IntWalk.i64_in _ ⟨by omega, by omega⟩
  have W3 : IntKind.u8.wrap (48 + (u : Int) % 10) = 48 + (u : Int) % 10 := IntWalk.u8_in _ ⟨by omega, by omega⟩
  have hconv := fun b W => conv1 b (48 + (u : Int) % 10) W
  have hlen : (Lib.decDigits (u / 10)).length ≤ 20 := by rw [Lib.decDigits_length]; exact Lib.nDigits_le20 _ (by omega)
  clear hd hb
  go_enter Tryz.func44, Tryz.ntmps44
  go_wp2_with fail
  go_region_with ((go_at_call 44; refine (HD.out _).mono ?_; rintro e w1 ⟨rfl, k1⟩; have q1 := bcell k1))
  all_goals
    go_wp2_with fail
    go_ret
    refine ⟨ret_str (dec_snoc u h10), ?_⟩
    have z1 : w.heap.size ≤ w1.heap.size := by have z := k1.size; simp at z; omega
  all_goals first
    | (with_reducible refine below_next ?_ k1; exact (by repeat' (first | with_reducible exact Below.refl _ _ | with_reducible assumption | with_reducible refine Below.alloc ?_ ?_ _ | with_reducible refine Below.drew ?_ | with_reducible refine Below.setCell ?_ ?_ _ | omega | (simp; omega) | (simp; done))))
    | (with_reducible refine Below.alloc (below_next ?_ k1) ?_ _ <;> exact (by repeat' (first | with_reducible exact Below.refl _ _ | with_reducible assumption | with_reducible refine Below.alloc ?_ ?_ _ | with_reducible refine Below.drew ?_ | with_reducible refine Below.setCell ?_ ?_ _ | omega | (simp; omega) | (simp; done))))

theorem decPos (k : Nat) : ∀ (u : Nat) (w : World), u ≤ k → u ≤ 9223372036854775807 →
    Calls Tryz.prog 44 #[.int .i64 u] w fun e w' => e = .returned (.string ⟨(Lib.decDigits u).toArray⟩) ∧ Below w.heap.size w w' := by
  induction k with
  | zero => exact fun u w hu _ => decDigit u w (by omega)
  | succ k ih =>
    intro u w hu hb
    by_cases h10 : u < 10
    · exact decDigit u w h10
    · exact decStep u w (by omega) hb fun W => ih (u / 10) W (by omega) (by omega)
end Go.Proofs.YtilldpoleiippaaGreatDoor

/-! Contracts of l1Words, l1Put and the reference's ReqPut; condition: 64-bit numbers. -/
namespace Go.Proofs.YtilldpoleiippaaGreatDoor
open Go.RowKit Go.Joins

theorem wpAnyH_weaken {P : Program} {md : Region.Mode} {ops : Array Oper} {Q : Exit → Act → World → Prop} {S S' : World → Prop} (hs : ∀ w, S' w → S w) :
    ∀ (fuel : Nat) (listed : Array Bool) (a : Act) (w : World), wpAnyH P md ops Q S' fuel listed a w → wpAnyH P md ops Q S fuel listed a w
  | 0, _, _, _, h => h
  | fuel + 1, _, _, _, h => ⟨h.1, fun i hi => wpOp_mono (fun a' w' h' => ⟨hs w' h'.1, wpAnyH_weaken hs fuel _ a' w' h'.2⟩) (h.2 i hi)⟩

set_option maxRecDepth 100000 in
set_option maxHeartbeats 400000 in
theorem decNeg (u : Nat) (w : World) (h1 : 1 ≤ u) (h2 : u ≤ 4611686018427387904) :
    Calls Tryz.prog 44 #[.int .i64 (-(u : Int))] w fun e w' => e = .returned (.string ⟨(45 :: Lib.decDigits u).toArray⟩) ∧ Below w.heap.size w w' := by
  have hlen : (Lib.decDigits u).length ≤ 20 := by rw [Lib.decDigits_length]; exact Lib.nDigits_le20 _ (by omega)
  have HD := Lib.hid (fun W => decPos u u W (Nat.le_refl _) (by omega))
  go_enter Tryz.func44, Tryz.ntmps44
  go_wp2_with fail
  refine (HD.out _).mono ?_
  rintro e w1 ⟨rfl, k1⟩
  go_wp2_with fail
  go_ret
  refine ⟨ret_str ?_, k1⟩
  apply ByteArray.ext
  simp

theorem l1Dec_c (n : Int) (w : World) (h0 : -4611686018427387904 ≤ n) (h1 : n ≤ 4611686018427387904) :
    Calls Tryz.prog 44 #[.int .i64 n] w fun e w' => e = .returned (.string ⟨(Lib.itoa n).toArray⟩) ∧ Below w.heap.size w w' := by
  by_cases hn : 0 ≤ n
  · obtain ⟨u, rfl⟩ := Int.eq_ofNat_of_zero_le hn
    have e : Lib.itoa (u : Int) = Lib.decDigits u := by unfold Lib.itoa; rw [if_neg (by omega)]; simp
    rw [e]
    exact decPos u u w (Nat.le_refl _) (by omega)
  · obtain ⟨u, hu⟩ := Int.eq_ofNat_of_zero_le (show 0 ≤ -n by omega)
    obtain rfl : n = -(u : Int) := by omega
    have e : Lib.itoa (-(u : Int)) = 45 :: Lib.decDigits u := by unfold Lib.itoa; rw [if_pos (by omega)]; simp
    rw [e]
    exact decNeg u w (by omega) (by omega)

theorem itoa_len (n : Int) (h0 : -4611686018427387904 ≤ n) (h1 : n ≤ 4611686018427387904) : (Lib.itoa n).length ≤ 21 := Lib.itoa_length_le n (by omega) (by omega)

/-- The words of the operations. -/
def words : List (List UInt8) := [[], [106, 111, 105, 110], [109, 111, 118, 101], [116, 97, 107, 101], [104, 105, 116], [103, 105, 118, 101]]
def wordsBlock : Obj := .cells #[.string ⟨#[]⟩, .string ⟨#[106, 111, 105, 110]⟩, .string ⟨#[109, 111, 118, 101]⟩, .string ⟨#[116, 97, 107, 101]⟩, .string ⟨#[104, 105, 116]⟩, .string ⟨#[103, 105, 118, 101]⟩] 9 (0, 0)
/-- What is written of a request. -/
def putL (c n o x y : Int) : List UInt8 := Lib.itoa c ++ [32] ++ Lib.itoa n ++ [32] ++ words.getD o.toNat [] ++ [32] ++ Lib.itoa x ++ [32] ++ Lib.itoa y

end Go.Proofs.YtilldpoleiippaaGreatDoor

/-! Contracts of okOrNull and allOk, with slices.ContainsFunc and IndexFunc at their closure; no condition. -/
namespace Go.Proofs.YtilldpoleiippaaGreatDoor
open Go.RowKit Go.Joins

attribute [local go_sem ↓] eql_rq neq_rq

/-- An ask that is ok, or none. -/
def goodB (c n o x y : Int) : Bool := eqR c n o x y 0 0 0 0 0 || okB c n o x y
def good (r : Rq) : Bool := goodB r.c r.n r.o r.x r.y

/-- The place of the first that is not good; -1: all are. -/
def IsFirst (zs : List Rq) (w : World) (e : Ending) (w' : World) : Prop :=
  ∃ m : Int, e = .returned (.int .i64 m) ∧ ((zs.all good = true ∧ m < 0) ∨ (zs.all good = false ∧ 0 ≤ m)) ∧ Below w.heap.size w w'

end Go.Proofs.YtilldpoleiippaaGreatDoor

/-! Contracts of l1None and of the reference's ReqPut; condition: 64-bit numbers far from the ends. -/
namespace Go.Proofs.YtilldpoleiippaaGreatDoor
open Go.RowKit Go.Joins

attribute [local go_sem ↓] eql_rq neq_rq

def noneB (c n o x y : Int) : Bool := eqR c n o x y 0 0 0 0 0

set_option maxHeartbeats 400000 in
theorem l1None_c (c n o x y : Int) (w : World) :
    Calls Tryz.prog 60 #[.agg #[.int .i64 c, .int .i64 n, .int .i64 o, .int .i64 x, .int .i64 y]] w fun e w' => e = .returned (.bool (noneB c n o x y)) ∧ Below w.heap.size w w' := by
  go_enter Tryz.func60, Tryz.ntmps60
  go_wp2
  go_ret
  exact ⟨rfl, (by repeat' (first | with_reducible exact Below.refl _ _ | with_reducible assumption | with_reducible refine Below.alloc ?_ ?_ _ | with_reducible refine Below.drew ?_ | with_reducible refine Below.setCell ?_ ?_ _ | omega | (simp; omega) | (simp; done)))⟩

/-- What the reference's ReqPut gives. -/
def reqPutL (r : Rq) : List UInt8 := if noneB r.c r.n r.o r.x r.y then [110, 111, 110, 101] else if okB r.c r.n r.o r.x r.y then putL r.c r.n r.o r.x r.y else []

theorem okB_op {c n o x y : Int} (h : okB c n o x y = true) : 0 ≤ o ∧ o ≤ 5 ∧ 1 ≤ c ∧ c ≤ 4 ∧ 1 ≤ n ∧ n ≤ 30 ∧ -1 ≤ x ∧ x ≤ 4 ∧ -1 ≤ y ∧ y ≤ 9 := by
  unfold okB at h
  simp only [Bool.and_eq_true, inB_iff] at h
  obtain ⟨⟨hc, hn⟩, h⟩ := h
  split at h
  · simp at h; omega
  · split at h
    · simp [inB] at h; omega
    · split at h
      · simp [inB] at h; omega
      · split at h
        · simp [inB] at h; omega
        · cases h

end Go.Proofs.YtilldpoleiippaaGreatDoor

/-! When a game is ok, as a plain function; no program; no condition. -/
namespace Go.Proofs.YtilldpoleiippaaGreatDoor
open Go.RowKit

/-- The figure number j; its client's number; that of the one ahead of it. -/
def entN (es : List Rq) (j : Nat) : Rq := es.getD j ⟨0, 0, 0, 0, 0⟩
def prevC (es : List Rq) (j : Nat) : Int := if j = 0 then 0 else (entN es (j - 1)).c
/-- A figure, behind client L. -/
def figB (L : Int) (e : Rq) : Bool := inB e.c (L + 1) 4 && (inB e.n 0 3 && inB e.o 0 3) && inB e.x 0 3 && inB e.y 0 20
def entAt (es : List Rq) (j : Nat) : Bool := figB (prevC es j) (entN es j)
def entsB (es : List Rq) : Bool := (List.range es.length).all (entAt es)
def golds (es : List Rq) : Int := (es.map Rq.y).sum
def gameB (g : Gm) : Bool := entsB g.es && g.fl.all (fun n => inB n 0 20) && g.la.all (fun n => inB n 0 30) && (g.fl.length == 16) && (g.la.length == 4) && (golds g.es + g.fl.sum == 20)

theorem entsB_iff (es : List Rq) : entsB es = true ↔ ∀ j, j < es.length → entAt es j = true := by
  unfold entsB
  rw [List.all_eq_true]
  simp
theorem entsB_bad {es : List Rq} {k : Nat} (h : k < es.length) (hb : entAt es k = false) : entsB es = false := by
  rw [← Bool.not_eq_true, entsB_iff]
  intro hh
  rw [hh k h] at hb
  cases hb
theorem all_bad {α : Type} {p : α → Bool} {zs : List α} {k : Nat} (h : k < zs.length) (hb : p zs[k] = false) : zs.all p = false := by
  rw [← Bool.not_eq_true, List.all_eq_true]
  intro hh
  rw [hh _ (List.getElem_mem h)] at hb
  cases hb
theorem all_good {α : Type} {p : α → Bool} {zs : List α} {k : Nat} (h : ∀ j (hj : j < zs.length), j < k → p zs[j] = true) (hk : zs.length ≤ k) : zs.all p = true := by
  rw [List.all_eq_true]
  intro z hz
  obtain ⟨j, hj, rfl⟩ := List.getElem_of_mem hz
  exact h j hj (by omega)

theorem entN_get {es : List Rq} {k : Nat} (h : k < es.length) : entN es k = es[k] := by
  unfold entN; rw [List.getD_eq_getElem?_getD, List.getElem?_eq_getElem h]; rfl
theorem golds_snoc {es : List Rq} {k : Nat} (h : k < es.length) : golds (es.take (k + 1)) = golds (es.take k) + (entN es k).y := by
  unfold golds
  rw [List.take_succ_eq_append_getElem h, entN_get h, List.map_append, List.sum_append, List.map_cons, List.map_nil, List.sum_cons, List.sum_nil, Int.add_zero]
theorem sum_snoc {zs : List Int} {k : Nat} (h : k < zs.length) : (zs.take (k + 1)).sum = (zs.take k).sum + zs[k] := by
  rw [List.take_succ_eq_append_getElem h, List.sum_append, List.sum_cons, List.sum_nil, Int.add_zero]
/-- A figure that is one: its numbers. -/
theorem figB_iff (L : Int) (e : Rq) : figB L e = true ↔ (L + 1 ≤ e.c ∧ e.c ≤ 4) ∧ (0 ≤ e.n ∧ e.n ≤ 3) ∧ (0 ≤ e.o ∧ e.o ≤ 3) ∧ (0 ≤ e.x ∧ e.x ≤ 3) ∧ (0 ≤ e.y ∧ e.y ≤ 20) := by
  unfold figB
  simp only [Bool.and_eq_true, inB_iff]
  constructor
  · rintro ⟨⟨⟨h1, h2, h3⟩, h4⟩, h5⟩; exact ⟨h1, h2, h3, h4, h5⟩
  · rintro ⟨h1, h2, h3, h4, h5⟩; exact ⟨⟨⟨h1, h2, h3⟩, h4⟩, h5⟩
/-- The gold of the first k figures, where they are ones. -/
theorem golds_bound {es : List Rq} {k : Nat} (hk : k ≤ es.length) (h : ∀ j, j < k → entAt es j = true) : 0 ≤ golds (es.take k) ∧ golds (es.take k) ≤ 20 * k := by
  induction k with
  | zero => simp [golds]
  | succ k ih =>
    obtain ⟨a, b⟩ := ih (by omega) (fun j hj => h j (by omega))
    have hk' := h k (by omega)
    have := (figB_iff _ _).1 hk'
    rw [golds_snoc (by omega)]
    omega
theorem sum_bound {zs : List Int} {k : Nat} (hk : k ≤ zs.length) (h : ∀ j (hj : j < zs.length), j < k → inB zs[j] 0 20 = true) : 0 ≤ (zs.take k).sum ∧ (zs.take k).sum ≤ 20 * k := by
  induction k with
  | zero => simp
  | succ k ih =>
    obtain ⟨a, b⟩ := ih (by omega) (fun j hj hjk => h j hj (by omega))
    have hk' := (inB_iff _ _ _).1 (h k (by omega) (by omega))
    rw [sum_snoc (by omega)]
    omega
/-- Behind a figure: the client's number is above naught. -/
theorem prev_bound {es : List Rq} {k : Nat} (h : ∀ j, j < k → entAt es j = true) : 0 ≤ prevC es k ∧ prevC es k ≤ 4 := by
  unfold prevC
  split
  · omega
  · have h1 := (figB_iff _ _).1 (h (k - 1) (by omega))
    induction k with
    | zero => omega
    | succ k ih =>
      simp only [Nat.add_sub_cancel] at h1 ⊢
      have h2 : 0 ≤ prevC es k := by
        unfold prevC
        split
        · omega
        · exact (ih (fun j hj => h j (by omega)) (by omega) ((figB_iff _ _).1 (h (k - 1) (by omega)))).1
      omega
end Go.Proofs.YtilldpoleiippaaGreatDoor

/-! Texts cut at a byte and glued again; numerals read back; no program; no condition. -/
namespace Go.Proofs.YtilldpoleiippaaGreatDoor

/-- A text cut at a byte, so many times at most: what is left of it, the piece so far. -/
def cutGo (b : UInt8) : List UInt8 → List UInt8 → Nat → List (List UInt8)
  | [], cur, _ => [cur]
  | x :: rest, cur, 0 => [cur ++ x :: rest]
  | x :: rest, cur, m + 1 => if x = b then cur :: cutGo b rest [] m else cutGo b rest (cur ++ [x]) (m + 1)
def cutL (b : UInt8) (most : Nat) (s : List UInt8) : List (List UInt8) := cutGo b s [] most
/-- Pieces with a byte between. -/
def glue (b : UInt8) (p : List UInt8) (ps : List (List UInt8)) : List UInt8 := p ++ ps.flatMap (fun q => b :: q)

theorem cutGo_zero (b : UInt8) (s cur : List UInt8) : cutGo b s cur 0 = [cur ++ s] := by cases s <;> simp [cutGo]
theorem cutGo_free {b : UInt8} : ∀ (p rest cur : List UInt8) (m : Nat), b ∉ p → cutGo b (p ++ rest) cur m = cutGo b rest (cur ++ p) m
  | [], rest, cur, m, _ => by simp
  | x :: p, rest, cur, 0, _ => by simp [cutGo_zero]
  | x :: p, rest, cur, m + 1, h => by
    have hx : x ≠ b := fun e => h (by simp [e])
    have ih := cutGo_free p rest (cur ++ [x]) (m + 1) (fun q => h (List.mem_cons_of_mem _ q))
    rw [List.cons_append, cutGo, if_neg hx, ih, List.append_assoc]
    rfl
theorem cutGo_glue {b : UInt8} : ∀ (ps : List (List UInt8)) (p cur : List UInt8) (m : Nat), b ∉ p → (∀ q ∈ ps, b ∉ q) → ps.length ≤ m → cutGo b (glue b p ps) cur m = (cur ++ p) :: ps
  | [], p, cur, m, hp, _, _ => by
    have := cutGo_free p [] cur m hp
    simp only [List.append_nil] at this
    simp [glue, this, cutGo]
  | q :: qs, p, cur, 0, _, _, h => by simp at h
  | q :: qs, p, cur, m + 1, hp, hq, h => by
    have h1 := cutGo_free p (b :: glue b q qs) cur (m + 1) hp
    have h2 := cutGo_glue qs q [] m (hq q (by simp)) (fun r hr => hq r (by simp [hr])) (by simpa using h)
    have e : glue b p (q :: qs) = p ++ (b :: glue b q qs) := by simp [glue]
    rw [e, h1, cutGo, if_pos rfl, h2]
    rfl
theorem cutL_glue {b : UInt8} {p : List UInt8} {ps : List (List UInt8)} {m : Nat} (hp : b ∉ p) (hq : ∀ q ∈ ps, b ∉ q) (h : ps.length ≤ m) : cutL b m (glue b p ps) = p :: ps := by
  unfold cutL
  rw [cutGo_glue ps p [] m hp hq h]
  rfl
theorem glue_inj {b : UInt8} {p p' : List UInt8} {ps ps' : List (List UInt8)} (hp : b ∉ p) (hq : ∀ q ∈ ps, b ∉ q) (hp' : b ∉ p') (hq' : ∀ q ∈ ps', b ∉ q) (h : glue b p ps = glue b p' ps') : p = p' ∧ ps = ps' := by
  have h1 := cutL_glue (m := max ps.length ps'.length) hp hq (by omega)
  have h2 := cutL_glue (m := max ps.length ps'.length) hp' hq' (by omega)
  rw [h, h2] at h1
  injection h1 with h1 h2
  exact ⟨h1.symm, h2.symm⟩

/-! The library's way of cutting. -/
theorem indexByte_free {b : UInt8} : ∀ (p : List UInt8), b ∉ p → Lib.indexByte p b = -1
  | [], _ => rfl
  | x :: p, h => by
    have hx : (x == b) = false := by simp; exact fun e => h (by simp [e])
    have ih := indexByte_free p (fun q => h (List.mem_cons_of_mem _ q))
    simp [Lib.indexByte, hx, ih]
theorem indexByte_at {b : UInt8} : ∀ (p rest : List UInt8), b ∉ p → Lib.indexByte (p ++ b :: rest) b = p.length
  | [], rest, _ => by simp [Lib.indexByte]
  | x :: p, rest, h => by
    have hx : (x == b) = false := by simp; exact fun e => h (by simp [e])
    have ih := indexByte_at p rest (fun q => h (List.mem_cons_of_mem _ q))
    have hn : ((p.length : Int) == -1) = false := by simp <;> omega
    simp [Lib.indexByte, hx, ih] <;> omega
theorem count_free {b : UInt8} {p : List UInt8} (h : b ∉ p) : p.count b = 0 := List.count_eq_zero.2 h
theorem count_glue {b : UInt8} : ∀ (ps : List (List UInt8)) (p : List UInt8), b ∉ p → (∀ q ∈ ps, b ∉ q) → Lib.count (glue b p ps) [b] = ps.length := by
  intro ps p hp hq
  rw [Lib.count_one]
  unfold glue
  rw [List.count_append, count_free hp, Nat.zero_add]
  induction ps with
  | nil => rfl
  | cons q qs ih =>
    rw [List.flatMap_cons, List.count_append, List.count_cons_self, count_free (hq q (by simp)), ih (fun r hr => hq r (by simp [hr]))]
    simp
    omega
theorem splitK_glue {b : UInt8} : ∀ (ps : List (List UInt8)) (p : List UInt8), b ∉ p → (∀ q ∈ ps, b ∉ q) → Lib.splitK [b] 0 ps.length (glue b p ps) = p :: ps
  | [], p, _, _ => by simp [glue, Lib.splitK]
  | q :: qs, p, hp, hq => by
    have e : glue b p (q :: qs) = p ++ (b :: glue b q qs) := by simp [glue]
    have hi := indexByte_at p (glue b q qs) hp
    have hn : ((p.length : Int) == -1) = false := by simp <;> omega
    have h2 := splitK_glue qs q (hq q (by simp)) (fun r hr => hq r (by simp [hr]))
    have ed : (p ++ b :: glue b q qs).drop (p.length + 1) = glue b q qs := by
      rw [List.drop_append]; simp
    rw [e, List.length_cons, Lib.splitK, Lib.index_one, hi, hn]
    simp only [Bool.false_eq_true, if_false, Int.toNat_natCast, Nat.add_zero, List.length_cons, List.length_nil, Nat.zero_add, ed, h2]
    rw [List.take_append_of_le_length (Nat.le_refl _), List.take_length]
/-- strings.Cut at one byte. -/
theorem cut_at {b : UInt8} {p rest : List UInt8} (hp : b ∉ p) : Lib.cut (p ++ b :: rest) [b] = (p, rest, true) := by
  unfold Lib.cut
  rw [Lib.index_one, indexByte_at p rest hp, if_pos (by omega)]
  have ed : (p ++ b :: rest).drop (p.length + 1) = rest := by rw [List.drop_append]; simp
  simp only [Int.toNat_natCast, List.length_cons, List.length_nil, Nat.zero_add, ed]
  rw [List.take_append_of_le_length (Nat.le_refl _), List.take_length]
theorem cut_none {b : UInt8} {p : List UInt8} (hp : b ∉ p) : Lib.cut p [b] = (p, [], false) := by
  unfold Lib.cut
  rw [Lib.index_one, indexByte_free p hp, if_neg (by omega)]

/-! Numerals. -/
theorem digit_toNat {u : Nat} (h : u < 10) : (UInt8.ofNat (48 + u)).toNat = 48 + u := by
  rw [UInt8.toNat_ofNat']; omega
theorem decDigits_mem : ∀ (k u : Nat), u ≤ k → ∀ c ∈ Lib.decDigits u, 48 ≤ c.toNat ∧ c.toNat ≤ 57
  | k, u, hk, c, hc => by
    rw [Lib.decDigits] at hc
    split at hc
    · rename_i h
      rw [List.mem_singleton] at hc
      subst hc
      rw [digit_toNat h]
      omega
    · rename_i h
      rcases List.mem_append.1 hc with h' | h'
      · cases k with
        | zero => omega
        | succ k => exact decDigits_mem k (u / 10) (by omega) c h'
      · rw [List.mem_singleton] at h'
        subst h'
        rw [digit_toNat (by omega)]
        omega
theorem decDigits_digit {u : Nat} {c : UInt8} (h : c ∈ Lib.decDigits u) : 48 ≤ c.toNat ∧ c.toNat ≤ 57 := decDigits_mem u u (Nat.le_refl _) c h
theorem itoa_mem {n : Int} {c : UInt8} (h : c ∈ Lib.itoa n) : c.toNat = 45 ∨ (48 ≤ c.toNat ∧ c.toNat ≤ 57) := by
  unfold Lib.itoa at h
  split at h
  · rcases List.mem_cons.1 h with h' | h'
    · subst h'; exact .inl rfl
    · exact .inr (decDigits_digit h')
  · exact .inr (decDigits_digit h)
theorem itoa_free {n : Int} {b : UInt8} (h1 : b.toNat ≠ 45) (h2 : b.toNat < 48 ∨ 57 < b.toNat) : b ∉ Lib.itoa n := fun h => by
  rcases itoa_mem h with q | q <;> omega
theorem decDigits_ne (u : Nat) : Lib.decDigits u ≠ [] := by
  rw [Lib.decDigits]
  split <;> simp
theorem parseUint10_dec : ∀ (k u : Nat) (rest : List UInt8), u ≤ k → u < 1000000000000000000 → Lib.parseUint10 0 (Lib.decDigits u ++ rest) = Lib.parseUint10 u rest
  | k, u, rest, hk, hu => by
    rw [Lib.decDigits]
    split
    · rename_i h
      rw [List.singleton_append, Lib.parseUint10, digit_toNat h, if_pos (by omega), if_neg (by omega), if_neg (by omega)]
      congr 1
      omega
    · rename_i h
      cases k with
      | zero => omega
      | succ k =>
        rw [List.append_assoc, parseUint10_dec k (u / 10) _ (by omega) (by omega), List.singleton_append, Lib.parseUint10, digit_toNat (by omega), if_pos (by omega), if_neg (by omega), if_neg (by omega)]
        congr 1
        omega
theorem parseMag_dec {u : Nat} (hu : u < 1000000000000000000) : Lib.parseMag (Lib.decDigits u) = .ok u := by
  unfold Lib.parseMag
  rw [if_neg (decDigits_ne u)]
  have := parseUint10_dec u u [] (Nat.le_refl _) hu
  rw [List.append_nil] at this
  rw [this]
  rfl
theorem atoiAll_itoa {n : Int} (h0 : -1000000000000000000 < n) (h1 : n < 1000000000000000000) : Lib.atoiAll (Lib.itoa n) = .ok n := by
  unfold Lib.itoa
  split
  · rename_i h
    unfold Lib.atoiAll
    simp only
    have h45 : (45 : UInt8).toNat = 45 := rfl
    rw [if_pos (.inr h45), parseMag_dec (by omega)]
    simp only [h45, not_true_eq_false, false_and, if_false, true_and, if_true]
    rw [if_neg (by omega)]
    congr 1
    omega
  · rename_i h
    cases hd : Lib.decDigits n.toNat with
    | nil => exact absurd hd (decDigits_ne _)
    | cons c r =>
      have hc := decDigits_digit (u := n.toNat) (c := c) (by rw [hd]; simp)
      unfold Lib.atoiAll
      simp only
      rw [if_neg (by omega), ← hd, parseMag_dec (by omega)]
      have e45 : ¬ c.toNat = 45 := by omega
      simp only [e45, not_false_eq_true, true_and, false_and, if_false]
      rw [if_neg (by omega)]
      congr 1
      omega
theorem atoiOr_itoa {n d : Int} (h0 : -1000000000000000000 < n) (h1 : n < 1000000000000000000) : Lib.atoiOr (Lib.itoa n) d = n := by
  unfold Lib.atoiOr
  rw [atoiAll_itoa h0 h1]
theorem itoa_inj {n m : Int} (h0 : -1000000000000000000 < n) (h1 : n < 1000000000000000000) (h2 : -1000000000000000000 < m) (h3 : m < 1000000000000000000) (h : Lib.itoa n = Lib.itoa m) : n = m := by
  have e1 := atoiAll_itoa h0 h1
  have e2 := atoiAll_itoa h2 h3
  rw [h, e2] at e1
  injection e1 with e1
  exact e1.symm

/-! The reference's way of reading a number of one or two digits. -/
def numGo : List UInt8 → Nat → Int → Option Int
  | [], _, acc => some acc
  | c :: r, i, acc => if c.toNat < 48 ∨ 57 < c.toNat ∨ 2 ≤ i then none else numGo r (i + 1) (acc * 10 + ((c.toNat : Int) - 48))
def numPos (s : List UInt8) : Int :=
  match numGo s 0 0 with
  | none => -999
  | some n => if s.length = 0 ∨ (1 < s.length ∧ s.head? = some 48) then -999 else n
def numL : List UInt8 → Int
  | [] => numPos []
  | [c] => numPos [c]
  | c :: d :: r => if c = 45 ∧ d ≠ 48 then (if numL (d :: r) < 0 then -999 else -numL (d :: r)) else numPos (c :: d :: r)

theorem num_one : ∀ u : Fin 10, numPos [UInt8.ofNat (48 + u.val)] = (u.val : Int) := by decide +kernel
theorem num_two : ∀ p : Fin 100, 10 ≤ p.val → numPos [UInt8.ofNat (48 + p.val / 10), UInt8.ofNat (48 + p.val % 10)] = (p.val : Int) := by decide +kernel
theorem dig_ne45 : ∀ u : Fin 10, UInt8.ofNat (48 + u.val) ≠ 45 := by decide +kernel
theorem dig_ne48 : ∀ u : Fin 10, 1 ≤ u.val → UInt8.ofNat (48 + u.val) ≠ 48 := by decide +kernel
theorem numL_dec {u : Nat} (h : u < 100) : numL (Lib.decDigits u) = u := by
  by_cases h1 : u < 10
  · rw [Lib.decDigits_one h1, numL]
    exact num_one ⟨u, h1⟩
  · rw [Lib.decDigits_two h1 h, numL, if_neg (fun q => dig_ne45 ⟨u / 10, by omega⟩ q.1)]
    exact num_two ⟨u, h⟩ (by show 10 ≤ u; omega)
theorem numL_itoa {n : Int} (h0 : -99 ≤ n) (h1 : n ≤ 99) : numL (Lib.itoa n) = n := by
  unfold Lib.itoa
  split
  · rename_i h
    have hn : n.natAbs < 100 := by omega
    have hp : 1 ≤ n.natAbs := by omega
    have e := numL_dec hn
    by_cases h1 : n.natAbs < 10
    · rw [Lib.decDigits_one h1] at e ⊢
      rw [numL, if_pos ⟨rfl, dig_ne48 ⟨n.natAbs, h1⟩ hp⟩, e, if_neg (by omega)]
      omega
    · rw [Lib.decDigits_two h1 hn] at e ⊢
      rw [numL, if_pos ⟨rfl, dig_ne48 ⟨n.natAbs / 10, by omega⟩ (by show 1 ≤ n.natAbs / 10; omega)⟩, e, if_neg (by omega)]
      omega
  · have := numL_dec (u := n.toNat) (by omega)
    rw [this]
    omega
end Go.Proofs.YtilldpoleiippaaGreatDoor

/-! Rows of texts: appends of one; no program's contract; no condition. -/
namespace Go.Proofs.YtilldpoleiippaaGreatDoor
open Go.RowKit Go.Joins

/-- A text's cell. -/
def strR (l : List UInt8) : List Value := [.string ⟨l.toArray⟩]
theorem str_len (l : List UInt8) : (strR l).length = 1 := rfl
theorem str_one : ∀ z : List UInt8, ∀ u ∈ strR z, u.oneCell' = true := by
  intro z u hu
  simp only [strR, List.mem_singleton] at hu
  subst hu
  rfl
set_option maxRecDepth 100000 in
theorem eltStr : Elt Tryz.prog 39 9 1 16 strR := by
  obtain ⟨i, h1, h2, h3, h4⟩ := info_parts (P := Tryz.prog) (e := 9) (z := .string ByteArray.empty) (size := 1) (bytes := 16) (by kernel_rfl)
  exact ⟨Tryz.underlying39, ⟨i, _, h1, h2, h3, h4, rfl⟩, by decide, str_len, str_one⟩
theorem rowsAt_str (w : World) (l : List UInt8) (t : TypeId) : RowsAt (w.alloc (.cells #[.string ⟨l.toArray⟩] t)) (some ⟨w.heap.size, 0, none⟩) 1 strR [l] :=
  rows_of_block (t := t) (fr := (0, 0)) str_len (heap_alloc_new w (.cells #[.string ⟨l.toArray⟩] t))
end Go.Proofs.YtilldpoleiippaaGreatDoor

/-! Regions that draw their order and whose callees lay blocks: contracts and blocks over every world of the class; no condition. -/
namespace Go.Proofs.YtilldpoleiippaaGreatDoor
open Go.RowKit Go.Joins

theorem quietC {P : Program} {f : FuncId} {args : Array Value} {w : World} {v : Value} (h : ∀ W, Below w.heap.size w W → Calls P f args W fun e w' => e = .returned v ∧ Below W.heap.size W w') :
    ∀ d os, Calls P f args (Sort.grow (redrawn w d) os) fun e w'' => e = .returned v ∧ ∃ p : Regrown, w'' = Sort.grow (redrawn w p.d) p.os := fun d os => Calls.regrown_of (h _ (below_regrown w d os))
theorem cellRe {w : World} {b : Nat} {cs : Array Value} {t : TypeId} {fr : Nat × Nat} (h : w.heap[b]? = some (.cells cs t fr)) (d : Nat) (os : Array Obj) (i : Nat) : (Sort.grow (redrawn w d) os).cell? ⟨b, i, none⟩ = cs[i]? :=
  ((below_regrown w d os).cell (p := ⟨b, i, none⟩) (lt_of_block h)).trans (cell_of_block h i)
end Go.Proofs.YtilldpoleiippaaGreatDoor

/-! How a game is written, and what is read of a text as a game, as a relation; no program; no condition. -/
namespace Go.Proofs.YtilldpoleiippaaGreatDoor
open Go.RowKit

/-- Numbers, each with a comma behind it. -/
def commasL (zs : List Int) : List UInt8 := zs.flatMap (fun n => Lib.itoa n ++ [44])
def fiveOf (e : Rq) : List Int := [e.c, e.n, e.o, e.x, e.y]
/-- Numbers with commas between. -/
def betweenL : List Int → List UInt8
  | [] => []
  | n :: ns => glue 44 (Lib.itoa n) (ns.map Lib.itoa)
def entText (e : Rq) : List UInt8 := 47 :: betweenL (fiveOf e)
def gameText (g : Gm) : List UInt8 := commasL g.fl ++ [47] ++ commasL g.la ++ g.es.flatMap entText
/-- What GamePut gives. -/
def gamePut (g : Gm) : List UInt8 := if gameB g then gameText g else []
/-- What is read of a text: the game that is written so, if there is one. -/
def IsGame (s : List UInt8) (g : Gm) (b : Bool) : Prop :=
  (b = true ∧ gameB g = true ∧ gameText g = s) ∨ (b = false ∧ g = ⟨[], [], []⟩ ∧ ∀ h, gameB h = true → gameText h ≠ s)

theorem commasL_glue (n : Int) (ns : List Int) : commasL (n :: ns) = glue 44 (Lib.itoa n) (ns.map Lib.itoa ++ [[]]) := by
  induction ns generalizing n with
  | nil => simp [commasL, glue]
  | cons m ms ih =>
    have h := ih m
    have e : commasL (n :: m :: ms) = Lib.itoa n ++ [44] ++ commasL (m :: ms) := by simp [commasL]
    rw [e, h]
    simp [glue]
theorem commasL_between (n : Int) (ns : List Int) : commasL (n :: ns) = betweenL (n :: ns) ++ [44] := by
  rw [commasL_glue]
  unfold betweenL glue
  rw [List.flatMap_append, ← List.append_assoc]
  simp
theorem itoa_no44 (n : Int) : (44 : UInt8) ∉ Lib.itoa n := itoa_free (by decide) (by decide)
theorem itoa_no47 (n : Int) : (47 : UInt8) ∉ Lib.itoa n := itoa_free (by decide) (by decide)
theorem itoas_no44 (ns : List Int) : ∀ q ∈ ns.map Lib.itoa, (44 : UInt8) ∉ q := by
  intro q hq
  obtain ⟨n, -, rfl⟩ := List.mem_map.1 hq
  exact itoa_no44 n
theorem commas_no47 (zs : List Int) : (47 : UInt8) ∉ commasL zs := by
  intro h
  obtain ⟨n, -, h⟩ := List.mem_flatMap.1 h
  rcases List.mem_append.1 h with h | h
  · exact itoa_no47 n h
  · simp at h
theorem between_no47 (zs : List Int) : (47 : UInt8) ∉ betweenL zs := by
  cases zs with
  | nil => simp [betweenL]
  | cons n ns =>
    intro h
    unfold betweenL glue at h
    rcases List.mem_append.1 h with h | h
    · exact itoa_no47 n h
    · obtain ⟨q, hq, h⟩ := List.mem_flatMap.1 h
      rcases List.mem_cons.1 h with h | h
      · exact absurd h (by decide)
      · obtain ⟨m, -, rfl⟩ := List.mem_map.1 hq
        exact itoa_no47 m h
/-! The pieces of a game's text. -/
def restG (g : Gm) : List (List UInt8) := commasL g.la :: g.es.map (fun e => betweenL (fiveOf e))
theorem gameText_glue (g : Gm) : gameText g = glue 47 (commasL g.fl) (restG g) := by
  have h : g.es.flatMap entText = (g.es.map (fun e => betweenL (fiveOf e))).flatMap (fun q => 47 :: q) := by
    rw [List.flatMap_map]
    rfl
  unfold gameText glue restG
  rw [h, List.flatMap_cons]
  simp
theorem restG_free (g : Gm) : ∀ q ∈ restG g, (47 : UInt8) ∉ q := by
  intro q hq
  rcases List.mem_cons.1 hq with h | h
  · subst h; exact commas_no47 _
  · obtain ⟨e, -, rfl⟩ := List.mem_map.1 h
    exact between_no47 _
theorem ents_le {es : List Rq} (h : entsB es = true) : es.length ≤ 4 := by
  have h1 := (entsB_iff es).1 h
  have key : ∀ k, k ≤ es.length → ((k : Nat) : Int) ≤ prevC es k := by
    intro k
    induction k with
    | zero => intro _; simp [prevC]
    | succ k ih =>
      intro hk
      have h2 := ih (by omega)
      have h3 := (figB_iff _ _).1 (h1 k (by omega))
      have e : prevC es (k + 1) = (entN es k).c := by simp [prevC]
      rw [e]
      omega
  have := key es.length (Nat.le_refl _)
  have := prev_bound (es := es) (k := es.length) h1
  omega
theorem game_ents {g : Gm} (h : gameB g = true) : g.es.length ≤ 4 := by
  unfold gameB at h
  simp only [Bool.and_eq_true] at h
  exact ents_le h.1.1.1.1.1
theorem game_lens {g : Gm} (h : gameB g = true) : g.fl.length = 16 ∧ g.la.length = 4 := by
  unfold gameB at h
  simp only [Bool.and_eq_true, beq_iff_eq] at h
  exact ⟨h.1.1.2, h.1.2⟩
theorem game_nums {g : Gm} (h : gameB g = true) : (∀ n ∈ g.fl, 0 ≤ n ∧ n ≤ 20) ∧ (∀ n ∈ g.la, 0 ≤ n ∧ n ≤ 30) ∧ ∀ e ∈ g.es, ∀ n ∈ fiveOf e, 0 ≤ n ∧ n ≤ 20 := by
  unfold gameB at h
  simp only [Bool.and_eq_true, List.all_eq_true, inB_iff] at h
  obtain ⟨⟨⟨⟨⟨h1, h2⟩, h3⟩, -⟩, -⟩, -⟩ := h
  refine ⟨h2, h3, fun e he n hn => ?_⟩
  obtain ⟨k, hk, rfl⟩ := List.getElem_of_mem he
  have hp := prev_bound (es := g.es) (k := k) (fun j hj => (entsB_iff _).1 h1 j (by omega))
  have hf := (figB_iff _ _).1 ((entsB_iff _).1 h1 k hk)
  rw [entN_get hk] at hf
  simp only [fiveOf, List.mem_cons, List.not_mem_nil, or_false] at hn
  rcases hn with rfl | rfl | rfl | rfl | rfl <;> omega
theorem cut_game {g : Gm} (h : gameB g = true) : cutL 47 6 (gameText g) = commasL g.fl :: restG g := by
  rw [gameText_glue]
  refine cutL_glue (commas_no47 _) (restG_free g) ?_
  have := game_ents h
  simp only [restG, List.length_cons, List.length_map]
  omega
theorem splitG_game (g : Gm) : Lib.splitK [47] 0 (Lib.count (gameText g) [47]) (gameText g) = commasL g.fl :: restG g := by
  rw [gameText_glue, count_glue _ _ (commas_no47 _) (restG_free g)]
  exact splitK_glue _ _ (commas_no47 _) (restG_free g)

/-! Numbers read: the reference's way, and the program's. -/
theorem map_same {f : Int → Int} {l : List Int} (h : ∀ x ∈ l, f x = x) : l.map f = l :=
  (List.map_congr_left (g := fun x => x) h).trans (List.map_id' l)
def numsL (s : List UInt8) : List Int := (cutL 44 20 s).map numL
theorem nums_commas {zs : List Int} (h0 : zs ≠ []) (hl : zs.length ≤ 20) (hb : ∀ n ∈ zs, -99 ≤ n ∧ n ≤ 99) : (numsL (commasL zs)).dropLast = zs := by
  cases zs with
  | nil => exact absurd rfl h0
  | cons n ns =>
    unfold numsL
    rw [commasL_glue, cutL_glue (itoa_no44 n) ?_ (by simpa using hl)]
    · have e : Lib.itoa n :: (ns.map Lib.itoa ++ [[]]) = (n :: ns).map Lib.itoa ++ [[]] := by simp
      rw [e, List.map_append, List.map_singleton, List.dropLast_concat, List.map_map]
      exact map_same (fun m hm => numL_itoa (hb m hm).1 (hb m hm).2)
    · intro q hq
      rcases List.mem_append.1 hq with h | h
      · exact itoas_no44 ns q h
      · rw [List.mem_singleton] at h; subst h; simp
theorem nums_between {zs : List Int} (h0 : zs ≠ []) (hl : zs.length ≤ 21) (hb : ∀ n ∈ zs, -99 ≤ n ∧ n ≤ 99) : numsL (betweenL zs) = zs := by
  cases zs with
  | nil => exact absurd rfl h0
  | cons n ns =>
    unfold numsL betweenL
    rw [cutL_glue (itoa_no44 n) (itoas_no44 ns) (by simp at hl ⊢; omega)]
    have e : Lib.itoa n :: ns.map Lib.itoa = (n :: ns).map Lib.itoa := by simp
    rw [e, List.map_map]
    exact map_same (fun m hm => numL_itoa (hb m hm).1 (hb m hm).2)
def numsI (s : List UInt8) : List Int := (Lib.splitK [44] 0 (Lib.count (Lib.trimSuffix s [44]) [44]) (Lib.trimSuffix s [44])).map (fun p => Lib.atoiOr p (-1099511627776))
theorem trim_snoc (s : List UInt8) : Lib.trimSuffix (s ++ [44]) [44] = s := by
  unfold Lib.trimSuffix
  have h : Lib.hasSuffix (s ++ [44]) [44] = true := by simp [Lib.hasSuffix]
  rw [if_pos h]
  simp
theorem itoa_ne (n : Int) : Lib.itoa n ≠ [] := by
  unfold Lib.itoa
  split
  · simp
  · exact decDigits_ne _
theorem glue_last : ∀ (ns : List Int) (n : Int), ∃ c, (glue 44 (Lib.itoa n) (ns.map Lib.itoa)).getLast? = some c ∧ c ≠ 44
  | [], n => by
    have hne := itoa_ne n
    refine ⟨(Lib.itoa n).getLast hne, ?_, fun e => itoa_no44 n (e ▸ List.getLast_mem hne)⟩
    have e : glue 44 (Lib.itoa n) (([] : List Int).map Lib.itoa) = Lib.itoa n := by simp [glue]
    rw [e]
    exact List.getLast?_eq_some_getLast hne
  | m :: ms, n => by
    obtain ⟨c, h1, h2⟩ := glue_last ms m
    refine ⟨c, ?_, h2⟩
    have e : glue 44 (Lib.itoa n) ((m :: ms).map Lib.itoa) = Lib.itoa n ++ 44 :: glue 44 (Lib.itoa m) (ms.map Lib.itoa) := by simp [glue]
    rw [e, List.getLast?_append, List.getLast?_cons, h1]
    rfl
theorem between_last {zs : List Int} : ∀ t, betweenL zs ≠ t ++ [44] := by
  intro t h
  cases zs with
  | nil => simp [betweenL] at h
  | cons n ns =>
    obtain ⟨c, h1, h2⟩ := glue_last ns n
    have e : betweenL (n :: ns) = glue 44 (Lib.itoa n) (ns.map Lib.itoa) := rfl
    rw [← e, h, List.getLast?_append] at h1
    simp at h1
    exact h2 h1.symm
theorem trim_between (zs : List Int) : Lib.trimSuffix (betweenL zs) [44] = betweenL zs := by
  unfold Lib.trimSuffix
  have h : Lib.hasSuffix (betweenL zs) [44] = false := by
    rw [← Bool.not_eq_true]
    intro h
    simp only [Lib.hasSuffix, List.isSuffixOf_iff_suffix] at h
    obtain ⟨t, ht⟩ := h
    exact between_last t ht.symm
  rw [h]
  rfl
theorem numsI_between {zs : List Int} (h0 : zs ≠ []) (hb : ∀ n ∈ zs, -99 ≤ n ∧ n ≤ 99) : numsI (betweenL zs) = zs := by
  unfold numsI
  rw [trim_between]
  cases zs with
  | nil => exact absurd rfl h0
  | cons n ns =>
    unfold betweenL
    rw [count_glue _ _ (itoa_no44 n) (itoas_no44 ns), splitK_glue _ _ (itoa_no44 n) (itoas_no44 ns)]
    have e : Lib.itoa n :: ns.map Lib.itoa = (n :: ns).map Lib.itoa := by simp
    rw [e, List.map_map]
    exact map_same (fun m hm => atoiOr_itoa (n := m) (by have := hb m hm; omega) (by have := hb m hm; omega))
theorem numsI_commas {zs : List Int} (h0 : zs ≠ []) (hb : ∀ n ∈ zs, -99 ≤ n ∧ n ≤ 99) : numsI (commasL zs) = zs := by
  cases zs with
  | nil => exact absurd rfl h0
  | cons n ns =>
    have h := numsI_between (zs := n :: ns) (by simp) hb
    unfold numsI at h ⊢
    rw [commasL_between, trim_snoc]
    rw [trim_between] at h
    exact h
end Go.Proofs.YtilldpoleiippaaGreatDoor

/-! What is read of a text as a game: the reference's pieces and the program's; no program; no condition. -/
namespace Go.Proofs.YtilldpoleiippaaGreatDoor
open Go.RowKit

/-- Five numbers as a figure. -/
def rqOf (l : List Int) : Rq := ⟨l.getD 0 0, l.getD 1 0, l.getD 2 0, l.getD 3 0, l.getD 4 0⟩
theorem rqOf_five (e : Rq) : rqOf (fiveOf e) = e := rfl
def readG (ps : List (List UInt8)) : Gm := ⟨(ps.drop 2).map (fun p => rqOf (numsL p)), (numsL (ps.getD 0 [])).dropLast, (numsL (ps.getD 1 [])).dropLast⟩
def readGI (ps : List (List UInt8)) : Gm := ⟨(ps.drop 2).map (fun p => rqOf (numsI p)), numsI (ps.getD 0 []), numsI (ps.getD 1 [])⟩
def splitG (s : List UInt8) : List (List UInt8) := Lib.splitK [47] 0 (Lib.count s [47]) s

theorem ne_of_len {l : List Int} {n : Nat} (h : l.length = n + 1) : l ≠ [] := by
  intro e
  rw [e] at h
  simp at h
theorem five_bounds {g : Gm} (h : gameB g = true) {e : Rq} (he : e ∈ g.es) : ∀ n ∈ fiveOf e, -99 ≤ n ∧ n ≤ 99 := fun n hn => by
  have := (game_nums h).2.2 e he n hn
  omega
theorem numsL_five {g : Gm} (h : gameB g = true) {e : Rq} (he : e ∈ g.es) : numsL (betweenL (fiveOf e)) = fiveOf e :=
  nums_between (by simp [fiveOf]) (by simp [fiveOf]) (five_bounds h he)
theorem numsI_five {g : Gm} (h : gameB g = true) {e : Rq} (he : e ∈ g.es) : numsI (betweenL (fiveOf e)) = fiveOf e :=
  numsI_between (by simp [fiveOf]) (five_bounds h he)
theorem readG_game {g : Gm} (h : gameB g = true) : readG (commasL g.fl :: restG g) = g := by
  obtain ⟨h1, h2, h3⟩ := game_nums h
  obtain ⟨l1, l2⟩ := game_lens h
  have e1 : (numsL (commasL g.fl)).dropLast = g.fl := nums_commas (ne_of_len l1) (by omega) (fun n hn => by have := h1 n hn; omega)
  have e2 : (numsL (commasL g.la)).dropLast = g.la := nums_commas (ne_of_len l2) (by omega) (fun n hn => by have := h2 n hn; omega)
  have e3 : (g.es.map fun e => betweenL (fiveOf e)).map (fun p => rqOf (numsL p)) = g.es := by
    rw [List.map_map]
    refine (List.map_congr_left (g := fun x => x) fun e he => ?_).trans (List.map_id' _)
    show rqOf (numsL (betweenL (fiveOf e))) = e
    rw [numsL_five h he, rqOf_five]
  show (⟨(g.es.map fun e => betweenL (fiveOf e)).map (fun p => rqOf (numsL p)), (numsL (commasL g.fl)).dropLast, (numsL (commasL g.la)).dropLast⟩ : Gm) = g
  rw [e1, e2, e3]
theorem readGI_game {g : Gm} (h : gameB g = true) : readGI (commasL g.fl :: restG g) = g := by
  obtain ⟨h1, h2, h3⟩ := game_nums h
  obtain ⟨l1, l2⟩ := game_lens h
  have e1 : numsI (commasL g.fl) = g.fl := numsI_commas (ne_of_len l1) (fun n hn => by have := h1 n hn; omega)
  have e2 : numsI (commasL g.la) = g.la := numsI_commas (ne_of_len l2) (fun n hn => by have := h2 n hn; omega)
  have e3 : (g.es.map fun e => betweenL (fiveOf e)).map (fun p => rqOf (numsI p)) = g.es := by
    rw [List.map_map]
    refine (List.map_congr_left (g := fun x => x) fun e he => ?_).trans (List.map_id' _)
    show rqOf (numsI (betweenL (fiveOf e))) = e
    rw [numsI_five h he, rqOf_five]
  show (⟨(g.es.map fun e => betweenL (fiveOf e)).map (fun p => rqOf (numsI p)), numsI (commasL g.fl), numsI (commasL g.la)⟩ : Gm) = g
  rw [e1, e2, e3]
theorem gameText_inj {g h : Gm} (hg : gameB g = true) (hh : gameB h = true) (e : gameText g = gameText h) : g = h := by
  have h1 := cut_game hg
  rw [e, cut_game hh] at h1
  rw [← readG_game hg, ← readG_game hh, h1]
theorem IsGame.uniq {s : List UInt8} {g h : Gm} {a b : Bool} (hg : IsGame s g a) (hh : IsGame s h b) : g = h ∧ a = b := by
  rcases hg with ⟨rfl, h1, h2⟩ | ⟨rfl, h1, h2⟩ <;> rcases hh with ⟨rfl, k1, k2⟩ | ⟨rfl, k1, k2⟩
  · exact ⟨gameText_inj h1 k1 (h2.trans k2.symm), rfl⟩
  · exact absurd h2 (k2 _ h1)
  · exact absurd k2 (h2 _ k1)
  · exact ⟨h1.trans k1.symm, rfl⟩
theorem isGame_yes {s : List UInt8} {g : Gm} (h : gameB g = true) (hs : gameText g = s) : IsGame s g true := .inl ⟨rfl, h, hs⟩
theorem isGame_no {s : List UInt8} (h : ∀ g, gameB g = true → gameText g ≠ s) : IsGame s ⟨[], [], []⟩ false := .inr ⟨rfl, rfl, h⟩
theorem rest_len (g : Gm) : (commasL g.fl :: restG g).length = g.es.length + 2 := by simp [restG]
/-- Too few pieces. -/
theorem isGame_spec_few {s : List UInt8} (h : (cutL 47 6 s).length < 2) : IsGame s ⟨[], [], []⟩ false := isGame_no fun g hg e => by
  subst e
  rw [cut_game hg, rest_len] at h
  omega
theorem isGame_impl_few {s : List UInt8} (h : (splitG s).length < 2) : IsGame s ⟨[], [], []⟩ false := isGame_no fun g hg e => by
  subst e
  unfold splitG at h
  rw [splitG_game, rest_len] at h
  omega
/-- A figure of another number of numbers. -/
theorem rest_at {g : Gm} {k : Nat} {p : List UInt8} (hk : 2 ≤ k) (hp : (commasL g.fl :: restG g)[k]? = some p) : ∃ e ∈ g.es, p = betweenL (fiveOf e) := by
  obtain ⟨j, rfl⟩ := Nat.exists_eq_add_of_le hk
  rw [Nat.add_comm] at hp
  simp only [restG, List.getElem?_cons_succ] at hp
  obtain ⟨e, he, rfl⟩ := List.mem_map.1 (List.mem_of_getElem? hp)
  exact ⟨e, he, rfl⟩
theorem isGame_spec_five {s p : List UInt8} {k : Nat} (hk : 2 ≤ k) (hp : (cutL 47 6 s)[k]? = some p) (h : (numsL p).length ≠ 5) : IsGame s ⟨[], [], []⟩ false := isGame_no fun g hg e => by
  subst e
  rw [cut_game hg] at hp
  obtain ⟨e, he, rfl⟩ := rest_at hk hp
  rw [numsL_five hg he] at h
  exact h rfl
theorem isGame_impl_five {s p : List UInt8} {k : Nat} (hk : 2 ≤ k) (hp : (splitG s)[k]? = some p) (h : (numsI p).length ≠ 5) : IsGame s ⟨[], [], []⟩ false := isGame_no fun g hg e => by
  subst e
  unfold splitG at hp
  rw [splitG_game] at hp
  obtain ⟨e, he, rfl⟩ := rest_at hk hp
  rw [numsI_five hg he] at h
  exact h rfl
/-- What was read is none, or written another way. -/
theorem isGame_spec_no {s : List UInt8} (h : gameB (readG (cutL 47 6 s)) = true → gameText (readG (cutL 47 6 s)) ≠ s) : IsGame s ⟨[], [], []⟩ false := isGame_no fun g hg e => by
  subst e
  rw [cut_game hg, readG_game hg] at h
  exact h hg rfl
theorem isGame_impl_no {s : List UInt8} (h : gameB (readGI (splitG s)) = true → gameText (readGI (splitG s)) ≠ s) : IsGame s ⟨[], [], []⟩ false := isGame_no fun g hg e => by
  subst e
  unfold splitG at h
  rw [splitG_game, readGI_game hg] at h
  exact h hg rfl
end Go.Proofs.YtilldpoleiippaaGreatDoor
