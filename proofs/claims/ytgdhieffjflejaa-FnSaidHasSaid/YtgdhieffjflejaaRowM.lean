/- Appends to rows whose elements hold slices as they stand (letters, votes); condition: small sizes. -/
import Derived.Test.YtgdhieffjflejaaRow
set_option linter.unusedSimpArgs false
set_option linter.unusedVariables false
namespace Go.Proofs.Ytgdhieffjflejaa
open Go.RowKit Go.Joins

section
variable {α : Type} {w w' : World} {B : Nat} {e : TypeId} {a : Option Addr} {cap k : Nat} {R : α → List Value} {zs : List α}

theorem flat_mem_oneM {ys : List α} (h1 : ∀ z ∈ ys, ∀ u ∈ R z, u.oneCell' = true) : ∀ u ∈ ys.flatMap R, u.oneCell' = true := by
  intro u hu
  obtain ⟨z, hm, hz⟩ := List.mem_flatMap.1 hu
  exact h1 z hm u hz
theorem RowsAt.srcM {P : Program} {tx e' : TypeId} {ys : List α} {ay : Option Addr} {cy : Nat} (hk : P.underlying tx = some (.slice e')) (hR : ∀ z, (R z).length = k) (h0 : 0 < k) (h1 : ∀ z ∈ ys, ∀ u ∈ R z, u.oneCell' = true) (h : RowsAt w ay k R ys) :
    Src P k tx (.slice ay ys.length cy) ys.length (ys.flatMap R) w := by
  cases ay with
  | none =>
    have h0 := h.none_nil
    subst h0
    exact Src.ofNil w hk cy
  | some ad => exact Src.ofSlice w hk ad ys.length cy _ (flatMap_length hR ys) (h.news hR h0) (flat_mem_oneM h1)
theorem run_append_rowM {P : Program} {t tx ty e' : TypeId} {i : TypeInfo} {z : Value} {bytes : Nat} (ht : P.underlying t = some (.slice e)) (htx : P.underlying tx = some (.slice e')) (hi : P.info? e = some i) (hz : i.zero = some z)
    (hsize : i.size = k) (hby : i.bytes = bytes) (hzs : z.cells.size = k) (h0 : 0 < k) (hR : ∀ z, (R z).length = k) 
    (hrow : Row w B e a cap k R zs) {ys : List α} {ay : Option Addr} {cy : Nat} (h1 : ∀ z ∈ ys, ∀ u ∈ R z, u.oneCell' = true) (hys : RowsAt w ay k R ys) (h63 : zs.length + ys.length ≤ maxLen) (hbytes : (zs.length + ys.length) * bytes ≤ 140737488355328) (hB : B ≤ w.heap.size) :
    ∃ a' cap' w', (Builtin.append_ #[t, tx] ty #[.slice a zs.length cap, .slice ay ys.length cy]).run P w = .ok (.slice a' (zs.length + ys.length) cap') w' ∧ Row w' B e a' cap' k R (zs ++ ys) ∧ w.grownBy w' (rowBlk a cap) ∧
      (rowBlk a' cap' = rowBlk a cap ∨ rowBlk a' cap' = some w.heap.size) ∧ (zs.length + ys.length ≤ cap → a' = a ∧ cap' = cap) := by
  subst hsize hby
  have hs := RowsAt.srcM (P := P) (w := w) (cy := cy) htx hR h0 h1 hys
  have hlz := flatMap_length hR zs
  have hly := flatMap_length hR ys
  have hsmall : zs.length + ys.length ≤ 9223372036854775807 := by simp only [maxLen] at h63; omega
  by_cases hroom : zs.length + ys.length ≤ cap
  · by_cases hc0 : cap = 0
    · subst hc0
      have e1 : zs = [] := List.eq_nil_of_length_eq_zero (by omega)
      have e2 : ys = [] := List.eq_nil_of_length_eq_zero (by omega)
      subst e1 e2
      refine ⟨a, 0, w, ?_, Row.nil w B e a i.size R, World.grownBy.refl w _, .inl rfl, fun _ => ⟨rfl, rfl⟩⟩
      have hl := hs.len
      have hcl := hs.cells
      simp only [List.flatMap_nil, List.length_nil] at hl hcl ⊢
      cases a with
      | none => simp [Builtin.append_, run_underlying ht, run_underlying htx, sizeOf, typeInfo, hi, hl, hcl]
      | some ad => simp [Builtin.append_, run_underlying ht, run_underlying htx, sizeOf, typeInfo, hi, hl, hcl, storeCells]
    · obtain ⟨g, cur, rfl, hBg, hg, hcs, hcur⟩ := hrow.own (by omega)
      have hb : rowBlk (some ⟨g, 0, none⟩) cap = some g := by simp [rowBlk, hc0]
      cases ay with
      | none =>
        have e2 := hys.none_nil
        subst e2
        refine ⟨some ⟨g, 0, none⟩, cap, w, ?_, by rw [List.append_nil]; exact hrow, World.grownBy.refl w _, .inl rfl, fun _ => ⟨rfl, rfl⟩⟩
        have hl := hs.len
        have hcl := hs.cells
        simp only [List.flatMap_nil, List.length_nil, Nat.add_zero] at hl hcl hroom ⊢
        simp [Builtin.append_, run_underlying ht, run_underlying htx, sizeOf, typeInfo, hi, hl, hcl, hroom, storeCells]
      | some ad =>
        have hfit : zs.length * i.size + (ys.flatMap R).length ≤ cur.size := by rw [hly, ← Nat.add_mul]; exact Nat.le_trans (Nat.mul_le_mul_right _ hroom) hcs
        have hst := run_storeCells_at P g (zs.length * i.size) e (ys.flatMap R) 0 cur w hg (by simpa using hfit) (flat_mem_oneM h1)
        simp only [Nat.add_zero] at hst
        have hl := hs.len
        have hcl := hs.cells
        refine ⟨some ⟨g, 0, none⟩, cap, w.setRow g (cur.toList.take (zs.length * i.size) ++ ys.flatMap R ++ cur.toList.drop (zs.length * i.size + (ys.flatMap R).length)).toArray, ?_, ⟨by rw [List.length_append]; exact hroom, hrow.max, fun _ => ⟨g, _, rfl, hBg, setRow_heap w g cur _ e _ hg, ?_, ?_⟩⟩, ⟨rfl, rfl, rfl, by simp [World.setRow], fun b _ hne => setRow_other w g b _ (fun e => hne (by rw [hb, e]))⟩, .inl rfl, fun _ => ⟨rfl, rfl⟩⟩
        · simp [Builtin.append_, run_underlying ht, run_underlying htx, sizeOf, typeInfo, hi, hl, hcl, hroom, Addr.add_lit, hst]
        · simp only [List.size_toArray, List.length_append, List.length_take, List.length_drop, Array.length_toList]
          rw [Nat.min_eq_left (by omega)]
          omega
        · intro j hj
          have htk : (cur.toList.take (zs.length * i.size)).length = zs.length * i.size := by
            simp only [List.length_take, Array.length_toList]; omega
          rw [List.length_append, Nat.add_mul] at hj
          rw [List.getElem?_toArray, flat_append, List.append_assoc]
          by_cases hjz : j < zs.length * i.size
          · rw [List.getElem?_append_left (by rw [htk]; exact hjz), List.getElem?_take_of_lt hjz, Array.getElem?_append_left (by rw [flat_size hR]; exact hjz), ← hcur j hjz, Array.getElem?_toList]
          · rw [List.getElem?_append_right (by rw [htk]; omega), htk, List.getElem?_append_left (by omega), Array.getElem?_append_right (by rw [flat_size hR]; omega), flat_size hR]
            simp [flat]
  · have hr := run_append_grow_src (P := P) w t tx ty e i z ht hi hz a zs.length cap (zs.flatMap R) (by
      have hw : RowsAt w.drew a i.size R zs := hrow.rows hR
      exact hw.firsts (P := P) (cy := cap) hR h0) (.slice ay ys.length cy) ys.length (ys.flatMap R) hs (by omega) (by omega) (growslice_fits (by omega) hbytes)
    have hge := grownCap_ge w (zs.length + ys.length) cap e
    refine ⟨_, _, _, hr, ⟨by rw [List.length_append]; exact hge, grownCap_le_maxLen w _ _ e h63, fun _ => ⟨w.heap.size, _, rfl, hB, heap_alloc_new w.drew _, ?_, ?_⟩⟩, ⟨rfl, rfl, rfl, by simp, fun b hb _ => Below.heap_alloc w.drew _ b hb⟩, .inr ?_, fun h => absurd h hroom⟩
    · simp only [Array.size_append, List.size_toArray, List.length_append, size_zeroCells, hzs, hlz, hly, ← Nat.add_mul]
      exact Nat.mul_le_mul_right _ (by omega)
    · intro j hj
      rw [← flatMap_length hR] at hj
      rw [Array.getElem?_append_left (by rw [List.size_toArray, ← List.flatMap_append]; exact hj), ← List.flatMap_append]
      simp [flat]
    · have : ¬ grownCap w (zs.length + ys.length) cap e = 0 := by omega
      simp [rowBlk, this]
/-- What a slice type's elements are: their type, cells, bytes, rows. -/
structure Elm (P : Program) (t e : TypeId) (k bytes : Nat) (R : α → List Value) : Prop where
  under : P.underlying t = some (.slice e)
  info : ∃ i z, P.info? e = some i ∧ i.zero = some z ∧ i.size = k ∧ i.bytes = bytes ∧ z.cells.size = k
  pos : 0 < k
  len : ∀ z, (R z).length = k
theorem run_append_elm {P : Program} {t ty : TypeId} {bytes n m N : Nat} (el : Elm P t e k bytes R) (hrow : Row w B e a cap k R zs) {ys : List α} {ay : Option Addr} {cy : Nat} (h1' : ∀ z ∈ ys, ∀ u ∈ R z, u.oneCell' = true) (hys : RowsAt w ay k R ys) (hn : zs.length = n) (hm : ys.length = m) (hN : n + m = N)
    (h63 : N ≤ maxLen) (hbytes : N * bytes ≤ 140737488355328) (hB : B ≤ w.heap.size) :
    ∃ a' cap' w', (Builtin.append_ #[t, t] ty #[.slice a n cap, .slice ay m cy]).run P w = .ok (.slice a' N cap') w' ∧ Appended w w' B e a a' cap cap' k R (zs ++ ys) := by
  subst hn hm hN
  obtain ⟨i, z, h1, h2, h3, h4, h5⟩ := el.info
  obtain ⟨a', cap', w', q1, q2, q3, q4, q5⟩ := run_append_rowM (ty := ty) (cy := cy) el.under el.under h1 h2 h3 h4 h5 el.pos el.len hrow h1' hys h63 hbytes hB
  exact ⟨a', cap', w', q1, q2, q3, q4, fun h => q5 (by rw [List.length_append] at h; exact h)⟩
theorem wpList_append_rowM {P : Program} {ops : Array Oper} {rest : List Oper} {o : Oper} {ac : Act} {Q : Exit → Act → World → Prop} (hgd : o.guard = none) (s x : Operand) {t : TypeId}
    (ho : o.op = .call { callee := .builtin .append, args := #[s, x], argTypes := #[t, t] }) {bytes n m : Nat} (N : Nat) (el : Elm P t e k bytes R) {ys : List α} {ay : Option Addr} {cy : Nat} (hs : ac.eval s = .slice a n cap) (hx : ac.eval x = .slice ay m cy)
    (hrow : Row w B e a cap k R zs) (h1' : ∀ z ∈ ys, ∀ u ∈ R z, u.oneCell' = true) (hys : RowsAt w ay k R ys) (hn : zs.length = n) (hm : ys.length = m) (hN : n + m = N) (h63 : N ≤ maxLen) (hbytes : N * bytes ≤ 140737488355328) (hB : B ≤ w.heap.size)
    (h : ∀ a' cap' w', Appended w w' B e a a' cap cap' k R (zs ++ ys) → wpList P ops Q rest (ac.put o.dst (.slice a' N cap')) w') : wpList P ops Q (o :: rest) ac w := by
  refine wpList_plain hgd fun K hK => ?_
  obtain ⟨a', cap', w', hrun, q⟩ := run_append_elm (ty := o.type) (cy := cy) el hrow h1' hys hn hm hN h63 hbytes hB
  unfold Oper.wp
  simp [execOp, ho, resolve, invoke, builtin, hs, hx, hrun, Result.andThen]
  exact hK _ _ (h a' cap' w' q)
theorem step_append_elm {P : Program} {ops : Array Oper} {o : Oper} {ac : Act} {K : Act → World → Prop} {Q : Exit → Act → World → Prop} {E : Prop} (hgd : o.guard = none) (s x : Operand) {t : TypeId}
    (ho : o.op = .call { callee := .builtin .append, args := #[s, x], argTypes := #[t, t] }) {bytes n m : Nat} (N : Nat) (el : Elm P t e k bytes R) {ys : List α} {ay : Option Addr} {cy : Nat} (hs : ac.eval s = .slice a n cap) (hx : ac.eval x = .slice ay m cy)
    (hrow : Row w B e a cap k R zs) (h1' : ∀ z ∈ ys, ∀ u ∈ R z, u.oneCell' = true) (hys : RowsAt w ay k R ys) (hn : zs.length = n) (hm : ys.length = m) (hN : n + m = N) (h63 : N ≤ maxLen) (hbytes : N * bytes ≤ 140737488355328) (hB : B ≤ w.heap.size)
    (h : ∀ a' cap' w', Appended w w' B e a a' cap cap' k R (zs ++ ys) → K (ac.put o.dst (.slice a' N cap')) w') :
    if Region.wanted o (yielded ops ac.tmps) = true then Oper.wp P o ac w K Q else E := by
  have hw : Region.wanted o (yielded ops ac.tmps) = true := by simp [Region.wanted, hgd]
  rw [if_pos hw]
  obtain ⟨a', cap', w', hrun, q⟩ := run_append_elm (ty := o.type) (cy := cy) el hrow h1' hys hn hm hN h63 hbytes hB
  unfold Oper.wp
  simp [execOp, ho, resolve, invoke, builtin, hs, hx, hrun, Result.andThen]
  exact h a' cap' w' q
end

theorem step_append_newM {α : Type} {w : World} (B : Nat) {e k : Nat} {a : Option Addr} {R : α → List Value} {P : Program} {ops : Array Oper} {o : Oper} {ac : Act} {K : Act → World → Prop} {Q : Exit → Act → World → Prop} {E : Prop} (hgd : o.guard = none) (s x : Operand) {t : TypeId}
    (ho : o.op = .call { callee := .builtin .append, args := #[s, x], argTypes := #[t, t] }) {bytes m : Nat} (el : Elm P t e k bytes R) {ys : List α} {ay : Option Addr} {cy : Nat} (hs : ac.eval s = .slice a 0 0) (hx : ac.eval x = .slice ay m cy)
    (h1' : ∀ z ∈ ys, ∀ u ∈ R z, u.oneCell' = true) (hys : RowsAt w ay k R ys) (hm : ys.length = m) (h63 : m ≤ maxLen) (hbytes : m * bytes ≤ 140737488355328) (hB : B ≤ w.heap.size)
    (h : ∀ a' cap' w', NewRow w w' B e a' cap' k R ys → K (ac.put o.dst (.slice a' m cap')) w') :
    if Region.wanted o (yielded ops ac.tmps) = true then Oper.wp P o ac w K Q else E :=
  step_append_elm hgd s x ho m el hs hx (Row.nil w B e a k R) h1' hys rfl hm (Nat.zero_add m) h63 hbytes hB fun a' c' w' q => h a' c' w' q.new
theorem wpList_append_newM {α : Type} {w : World} (B : Nat) {e k : Nat} {a : Option Addr} {R : α → List Value} {P : Program} {ops : Array Oper} {rest : List Oper} {o : Oper} {ac : Act} {Q : Exit → Act → World → Prop} (hgd : o.guard = none) (s x : Operand) {t : TypeId}
    (ho : o.op = .call { callee := .builtin .append, args := #[s, x], argTypes := #[t, t] }) {bytes m : Nat} (el : Elm P t e k bytes R) {ys : List α} {ay : Option Addr} {cy : Nat} (hs : ac.eval s = .slice a 0 0) (hx : ac.eval x = .slice ay m cy)
    (h1' : ∀ z ∈ ys, ∀ u ∈ R z, u.oneCell' = true) (hys : RowsAt w ay k R ys) (hm : ys.length = m) (h63 : m ≤ maxLen) (hbytes : m * bytes ≤ 140737488355328) (hB : B ≤ w.heap.size)
    (h : ∀ a' cap' w', NewRow w w' B e a' cap' k R ys → wpList P ops Q rest (ac.put o.dst (.slice a' m cap')) w') : wpList P ops Q (o :: rest) ac w :=
  wpList_append_rowM hgd s x ho m el hs hx (Row.nil w B e a k R) h1' hys rfl hm (Nat.zero_add m) h63 hbytes hB fun a' c' w' q => h a' c' w' q.new
theorem step_build0M {α : Type} {w : World} {e k bytes : Nat} {R : α → List Value} {P : Program} {ops : Array Oper} {o : Oper} {ac : Act} {K : Act → World → Prop} {Q : Exit → Act → World → Prop} {E : Prop} (hgd : o.guard = none) {t : TypeId}
    (ho : o.op = .buildSlice t 0 #[]) (el : Elm P t e k bytes R) (h : K (ac.put o.dst (.slice (some ⟨w.heap.size, 0, none⟩) 0 0)) (w.alloc (.cells #[] e))) :
    if Region.wanted o (yielded ops ac.tmps) = true then Oper.wp P o ac w K Q else E := by
  have hw : Region.wanted o (yielded ops ac.tmps) = true := by simp [Region.wanted, hgd]
  rw [if_pos hw]
  obtain ⟨i, z, h2, h3, h4, h5, h6⟩ := el.info
  unfold Oper.wp
  simp [execOp, ho, Result.andThen, Instr.buildSlice, run_underlying el.under, zeroValue, sizeOf, typeInfo, h2, h3, newRow, h4, Instr.fill]
  have h0 : (Array.map (fun _ => (default : Value)) (Array.range 0)) = #[] := by simp
  rw [h0]
  exact h
end Go.Proofs.Ytgdhieffjflejaa
