/- Contracts of markAhead, heldAhead over rows of the program's own; condition: small numbers. -/
import Derived.Test.YtilldpoleiippaaGreatDoorMark5
set_option linter.unusedSimpArgs false
set_option linter.unusedVariables false
namespace Go.Proofs.YtilldpoleiippaaGreatDoor
open Go.RowKit Go.Joins

/-- Blocks that are old and not among p are as they were. -/
structure Turned (p : Nat → Prop) (w w' : World) : Prop where
  os : w'.os = w.os
  tape : w'.tape = w.tape
  output : w'.output = w.output
  size : w.heap.size ≤ w'.heap.size
  block : ∀ b, b < w.heap.size → ¬ p b → w'.heap[b]? = w.heap[b]?
section
variable {p q : Nat → Prop} {a b c w w' : World}
theorem Turned.refl (p : Nat → Prop) (w : World) : Turned p w w := ⟨rfl, rfl, rfl, Nat.le_refl _, fun _ _ _ => rfl⟩
theorem Turned.trans (h : Turned p a b) (k : Turned p b c) : Turned p a c :=
  ⟨k.os.trans h.os, k.tape.trans h.tape, k.output.trans h.output, Nat.le_trans h.size k.size, fun i hi hp => (k.block i (Nat.lt_of_lt_of_le hi h.size) hp).trans (h.block i hi hp)⟩
theorem Turned.mono (h : Turned p w w') (hq : ∀ b, p b → q b) : Turned q w w' := ⟨h.os, h.tape, h.output, h.size, fun b hb hp => h.block b hb (fun h => hp (hq b h))⟩
theorem Turned.ofBelow (p : Nat → Prop) (h : Below w.heap.size w w') : Turned p w w' := ⟨h.os, h.tape, h.output, h.size, fun b hb _ => h.block b hb⟩
theorem Turned.ofGrown {row : Option Nat} (h : w.grownBy w' row) : Turned (fun b => row = some b) w w' := ⟨h.os, h.tape, h.output, h.size, fun b hb hp => h.block b hb (fun e => hp e.symm)⟩
theorem Turned.below (h : Turned p w w') {B : Nat} (hB : B ≤ w.heap.size) (hp : ∀ b, p b → B ≤ b) : Below B w w' := ⟨h.os, h.tape, h.output, h.size, fun b hb => h.block b (by omega) (fun k => by have := hp b k; omega)⟩
theorem Row.turned {α : Type} {B e cap k : Nat} {x : Option Addr} {R : α → List Value} {zs : List α} (h : Row w B e x cap k R zs) (t : Turned p w w') (hp : ∀ g, rowBlk x cap = some g → ¬ p g) : Row w' B e x cap k R zs :=
  ⟨h.len, h.max, fun hc => by
    obtain ⟨g, cur, rfl, h2, h3, h4⟩ := h.own hc
    refine ⟨g, cur, rfl, h2, ?_, h4⟩
    rw [t.block g (lt_of_block h3) (hp g (by simp [rowBlk]; omega))]
    exact h3⟩
end

/-! Walking a region by hand: what is left open at its end, once for all orders. -/
structure Xs where
  v0 : Value
  v1 : Value
  v2 : Value
  a0 : Option Addr
  a1 : Option Addr
  a2 : Option Addr
  c0 : Nat
  c1 : Nat
  c2 : Nat
  x : Nat
theorem introFin2 {X : Type} {P : Program} {md : Region.Mode} {ops : Array Oper} {Q : Exit → Act → World → Prop} {S : World → Prop} {fuel0 : Nat} {listed0 : Array Bool} {T0 : Array Value} {w0 : World} (fuel : Nat) (listed : Array Bool) (F : X → Array Value → Array Value) (C : X → World → Prop)
    (hfin : ∀ x w', C x w' → wpAnyH P md ops Q S fuel listed ⟨F x T0, []⟩ w')
    (h : (∀ x w' l a, l = listed → a = ⟨F x T0, []⟩ → C x w' → wpAnyH P md ops Q S fuel l a w') → wpAnyH P md ops Q S fuel0 listed0 ⟨T0, []⟩ w0) : wpAnyH P md ops Q S fuel0 listed0 ⟨T0, []⟩ w0 :=
  h fun x w' _ _ e1 e2 c => e1 ▸ e2 ▸ hfin x w' c
theorem step_alloc {P : Program} {ops : Array Oper} {o : Oper} {ac : Act} {w : World} {K : Act → World → Prop} {Q : Exit → Act → World → Prop} {E : Prop} (hgd : o.guard = none) {t : TypeId} (ho : o.op = .alloc t) {z : Value} {cs : Array Value} (hiz : (P.info? t).map (·.zero) = some (some z)) (hcs : z.cells = cs)
    (h : K (ac.put o.dst (.pointer (some ⟨w.heap.size, 0, none⟩))) (w.alloc (.cells cs t))) :
    if Region.wanted o (yielded ops ac.tmps) = true then Oper.wp P o ac w K Q else E := by
  have hw : Region.wanted o (yielded ops ac.tmps) = true := by simp [Region.wanted, hgd]
  rw [if_pos hw]
  obtain ⟨i, hi, hz⟩ : ∃ i, P.info? t = some i ∧ i.zero = some z := by
    cases hi : P.info? t with
    | none => rw [hi] at hiz; cases hiz
    | some i => rw [hi] at hiz; exact ⟨i, rfl, by simpa using hiz⟩
  unfold Oper.wp
  subst hcs
  simp [execOp, ho, Result.andThen, Instr.alloc, zeroValue, typeInfo, hi, hz]
  exact h
theorem carryN {w w1 : World} {b : Nat} {o : Obj} (k : Below w.heap.size w w1) (h : w.heap[b]? = some o) : w1.heap[b]? = some o := (k.block b (Array.getElem?_eq_some_iff.1 h).1).trans h
theorem carryT {p : Nat → Prop} {w w1 : World} {b : Nat} {o : Obj} (k : Turned p w w1) (h : w.heap[b]? = some o) (hp : ¬ p b) : w1.heap[b]? = some o := (k.block b (Array.getElem?_eq_some_iff.1 h).1 hp).trans h

theorem rowBlk_some {g o n b : Nat} {s : Option Nat} (h : rowBlk (some ⟨g, o, s⟩) n = some b) : b = g := by
  unfold rowBlk at h
  split at h
  · cases h
  · simpa using h.symm
theorem Row.of_block {α : Type} {w : World} {B g e k : Nat} {R : α → List Value} {zs : List α} (hR : ∀ z, (R z).length = k) (h : w.heap[g]? = some (.cells (flat R zs) e (0, 0))) (hB : B ≤ g) (hn : zs.length ≤ maxLen) : Row w B e (some ⟨g, 0, none⟩) zs.length k R zs :=
  ⟨Nat.le_refl _, hn, fun _ => ⟨g, _, rfl, hB, h, Nat.le_of_eq (flat_size hR zs).symm, fun _ _ => rfl⟩⟩
/-- Numbered cells, as they stand now. -/
def Marks (w : World) (a : Option Addr) (n k : Nat) (m : Int) : Prop := ∀ g, rowBlk a n = some g → g < w.heap.size ∧ ∀ j, j < n * k → w.cell? ⟨g, j, none⟩ = some (.int .i64 (m + j))
theorem Marks.below {w w' : World} {a : Option Addr} {n k : Nat} {m : Int} (h : Marks w a n k m) (b : Below w.heap.size w w') : Marks w' a n k m := fun g hg =>
  ⟨Nat.lt_of_lt_of_le (h g hg).1 b.size, fun j hj => (b.cell (p := ⟨g, j, none⟩) (h g hg).1).trans ((h g hg).2 j hj)⟩

end Go.Proofs.YtilldpoleiippaaGreatDoor
