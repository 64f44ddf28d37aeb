/- slices.Delete of one element, at lists of asks and of figures; condition: small sizes. -/
import Derived.Test.YtilldpoleiippaaGreatDoorMarkA
set_option linter.unusedSimpArgs false
set_option linter.unusedVariables false
namespace Go.Proofs.YtilldpoleiippaaGreatDoor
open Go.RowKit Go.Joins

section
variable {α : Type} {w w' : World} {B : Nat} {e : TypeId} {a : Option Addr} {cap k : Nat} {R : α → List Value} {zs : List α}
theorem Row.take (h : Row w B e a cap k R zs) (hR : ∀ z, (R z).length = k) (i : Nat) : Row w B e a cap k R (zs.take i) :=
  ⟨Nat.le_trans (by rw [List.length_take]; exact Nat.min_le_right _ _) h.len, h.max, fun hc => by
    obtain ⟨g, cur, h1, h2, h3, h4, h5⟩ := h.own hc
    refine ⟨g, cur, h1, h2, h3, h4, fun j hj => ?_⟩
    have hle : (zs.take i).length * k ≤ zs.length * k := Nat.mul_le_mul_right k (by rw [List.length_take]; exact Nat.min_le_right _ _)
    rw [h5 j (by omega)]
    have e1 : flat R zs = flat R (zs.take i) ++ flat R (zs.drop i) := by rw [← flat_append, List.take_append_drop]
    rw [e1, Array.getElem?_append_left (by rw [flat_size hR]; exact hj)]⟩
theorem RowsAt.drop {g off : Nat} (h : RowsAt w (some ⟨g, off, none⟩) k R zs) (i : Nat) : RowsAt w (some ⟨g, off + i * k, none⟩) k R (zs.drop i) := by
  intro j hj
  rw [List.length_drop] at hj
  obtain ⟨b, o, q, hb, hc⟩ := h (i + j) (by omega)
  injection q with q
  injection q with q1 q2
  subst q1 q2
  refine ⟨g, off + i * k, rfl, hb, fun t ht => ?_⟩
  have := hc t ht
  rw [Nat.add_mul] at this
  rw [List.getElem_drop, ← this]
  congr 2
  omega
theorem RowsAt.empty (w : World) (a : Option Addr) (k : Nat) (R : α → List Value) : RowsAt w a k R [] := fun i hi => absurd hi (Nat.not_lt_zero i)

/-- The cells of one element behind the row set to zero. -/
theorem wpList_clear_row {P : Program} {ops : Array Oper} {rest : List Oper} {o : Oper} {ac : Act} {Q : Exit → Act → World → Prop} (hgd : o.guard = none) (x : Operand) {t : TypeId} (ho : o.op = .call { callee := .builtin .clear, args := #[x], argTypes := #[t] })
    {bytes : Nat} (el : Elt P t e k bytes R) {i : Nat} {c : Nat} {g : Nat} (hx : ac.eval x = .slice (some ⟨g, i * k, none⟩) 1 c) (hrow : Row w B e (some ⟨g, 0, none⟩) cap k R zs) (hi : zs.length ≤ i) (hic : i < cap) (hzone : ∀ z v, P.info? e = some z → z.zero = some v → ∀ u ∈ v.cells.toList, u.oneCell' = true)
    (h : ∀ w', Row w' B e (some ⟨g, 0, none⟩) cap k R zs → w.grownBy w' (some g) → wpList P ops Q rest (ac.put o.dst (.tuple #[])) w') : wpList P ops Q (o :: rest) ac w := by
  refine wpList_plain hgd fun K hK => ?_
  obtain ⟨inf, z, h1, h2, h3, h4, h5⟩ := el.info
  obtain ⟨g', cur, q, hBg, hg, hcs, hcur⟩ := hrow.own (by omega)
  injection q with q
  injection q with q1
  subst q1
  have hzc : (Builtin.zeroCells z.cells 1).toList = z.cells.toList := by
    apply List.ext_getElem
    · simp [Builtin.zeroCells]
    · intro j hj1 hj2
      have hj : j < z.cells.size := by simpa using hj2
      simp [Builtin.zeroCells, Nat.mod_eq_of_lt hj, hj]
  have hmul : (i + 1) * k ≤ cap * k := Nat.mul_le_mul_right k hic
  rw [Nat.add_mul, Nat.one_mul] at hmul
  have hmul2 : zs.length * k ≤ i * k := Nat.mul_le_mul_right k hi
  have hst := run_storeCells_at P g (i * k) e z.cells.toList 0 cur w hg (by simp [h5]; omega) (hzone inf z h1 h2)
  simp only [Nat.add_zero] at hst
  unfold Oper.wp
  simp [execOp, ho, resolve, invoke, builtin, hx, Result.andThen, Builtin.clear_, run_underlying el.under, zeroValue, typeInfo, h1, h2, hzc, hst]
  refine hK _ _ (h _ ⟨hrow.len, hrow.max, fun _ => ⟨g, _, rfl, hBg, setRow_heap w g cur _ e _ hg, ?_, fun j hj => ?_⟩⟩ ⟨rfl, rfl, rfl, by simp [World.setRow], fun b _ hne => setRow_other w g b _ (fun e => hne (by rw [e]))⟩)
  · simp only [List.size_toArray, List.length_append, List.length_take, List.length_drop, Array.length_toList]
    rw [Nat.min_eq_left (by omega)]
    omega
  · rw [← hcur j hj, List.getElem?_toArray, List.getElem?_append_left (by simp only [List.length_take, Array.length_toList]; omega), List.getElem?_take_of_lt (by omega), Array.getElem?_toList]
end

theorem grownBy_trans {w w1 w2 : World} {row : Option Nat} (h : w.grownBy w1 row) (k : w1.grownBy w2 row) : w.grownBy w2 row :=
  ⟨k.os.trans h.os, k.tape.trans h.tape, k.output.trans h.output, Nat.le_trans h.size k.size, fun b hb hne => (k.block b (Nat.lt_of_lt_of_le hb h.size) hne).trans (h.block b hb hne)⟩

set_option maxRecDepth 100000 in
theorem zoneReq : ∀ z v, Tryz.prog.info? 79 = some z → z.zero = some v → ∀ u ∈ v.cells.toList, u.oneCell' = true := by
  intro z v h1 h2
  have h : (Tryz.prog.info? 79).map (·.zero) = some (some (.agg #[.int .i64 0, .int .i64 0, .int .i64 0, .int .i64 0, .int .i64 0])) := by kernel_rfl
  rw [h1] at h
  simp only [Option.map_some, Option.some.injEq] at h
  rw [h2] at h
  injection h with h
  subst h
  intro u hu
  simp [Value.cells] at hu
  subst hu
  rfl
set_option maxRecDepth 100000 in
theorem zoneEnt : ∀ z v, Tryz.prog.info? 44 = some z → z.zero = some v → ∀ u ∈ v.cells.toList, u.oneCell' = true := by
  intro z v h1 h2
  have h : (Tryz.prog.info? 44).map (·.zero) = some (some (.agg #[.int .i64 0, .int .i64 0, .int .i64 0, .int .i64 0, .int .i64 0])) := by kernel_rfl
  rw [h1] at h
  simp only [Option.map_some, Option.some.injEq] at h
  rw [h2] at h
  injection h with h
  subst h
  intro u hu
  simp [Value.cells] at hu
  subst hu
  rfl
end Go.Proofs.YtilldpoleiippaaGreatDoor
